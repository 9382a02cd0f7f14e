import Derived.Test.YtpodgcpkccpnfaaGreatPk12
import Derived.Test.YtpodgcpkccpnfaaGreatPk25
set_option linter.unusedVariables false
set_option linter.unusedSimpArgs false
set_option maxRecDepth 20000
set_option maxHeartbeats 40000000
namespace Go.Proofs.YtpodgcpkccpnfaaGreat
variable{AH:List (List CD)}{i j k p t:Nat}
section
open Go.RowKit
def R6 (e r:D6):Bool:=decide (r.kind=2)&&decide (r.thread=e.thread)&&decide (r.call=e.call)
def OP (l:List D6)(a:tyN)(e:D6):Option Nat:=(List.range l.length).find? λk=>decide (a<=k)&&R6 e (l.getD k En)
def mV (AH:List (List CD))(e:D6):CD:=(AH.getD e.thread.toNat []).getD e.call.toNat (0,0,0)
def vk (c:CD)(e:D6)(r:Option D6):Option C6:=match r with
 |none=>some ⟨e.at',-1,decide (c.1=16),if c.1=16 then c.2.2 else 0,e.thread⟩
 |some r=>if r.err=0 then some ⟨e.at',r.at',decide (c.1=16),if c.1=16 then c.2.2 else r.YU,e.thread⟩else none
def O8 (AH:List (List CD))(l:List D6)(i:tyN):Option C6:=
 if(l.getD i En).kind=1 then vk (mV AH (l.getD i En)) (l.getD i En) ((OP l (i+1) (l.getD i En)).map λk=>l.getD k En)else none
def OD (AH:List (List CD))(l:List D6)(n:tyN):List C6:=(List.range n).filterMap (O8 AH l)
theorem aW{α β:Type}(f:α->Option β):∀(H:List α),∃pos:Nat->Nat,(∀i b,(H.filterMap f)[i]?=some b->∃a,H[pos i]?=some a/\f a=some b)/\(∀i j,i<j->j<(H.filterMap f).length->pos i<pos j)/\∀p a b,H[p]?=some a->f a=some b->∃i,i<(H.filterMap f).length/\pos i=p
 |[]=>⟨id,λi b h=>by simp at h,λi j _ h=>by simp at h,λp a b h=>by simp at h⟩
 |x::H=>by
  obtain⟨pos,h1,h2,h3⟩:=aW f H;cases e:f x with
  |none=>
   rw[List.filterMap_cons_none e];refine⟨λi=>pos i+1,λi b h=>?_,λi j hij hj=>Nat.succ_lt_succ (h2 i j hij hj),λp a b h hf=>?_⟩
   .obtain⟨a,q1,q2⟩:=h1 i b h;exact⟨a,by rw[Kk];exact q1,q2⟩
   .cases p with
    |zero=>rw[Gc]at h;cases h;rw[e]at hf;cases hf
    |succ p=>
     obtain⟨i,q1,q2⟩:=h3 p a b (by rw[Kk]at h;exact h) hf;exact⟨i,q1,DJ (· +1) q2⟩
  |some y=>
   rw[List.filterMap_cons_some e];refine⟨λi=>match i with|0=>0|i+1=>pos i+1,λi b h=>?_,λi j hij hj=>?_,λp a b h hf=>?_⟩
   .cases i with
    |zero=>rw[Gc]at h;cases h;exact⟨x,rfl,e⟩
    |succ i=>
     rw[Kk]at h;obtain⟨a,q1,q2⟩:=h1 i b h;exact⟨a,by rw[Kk];exact q1,q2⟩
   .cases j with
    |zero=>omega
    |succ j=>
     cases i with
     |zero=>exact Nat.succ_pos _
     |succ i=>have:=h2 i j J (Cw hj);show pos i+1<pos j+1;omega
   .cases p with
    |zero=>exact⟨0,Az,rfl⟩
    |succ p=>
     obtain⟨i,q1,q2⟩:=h3 p a b (by rw[Kk]at h;exact h) hf;exact⟨i+1,by simpa using q1,DJ (· +1) q2⟩
def EM (H:List Au)(p:tyN):Int:=match H[p]? with
 |some A=>A.now
 |none=>0
def opC (AH:List (List CD))(H:List Au)(t i:tyN)(c:GC):C6:=
 ⟨EM H c.p0,match c.res with|none=> -1|some (p,_,_)=>EM H p,decide ((AN AH t i).1=16),if(AN AH t i).1=16 then(AN AH t i).2.2 else match c.res with|none=>0|some (_,_,v)=>v,t⟩
def GC.fine (c:GC):Prop:= ∀p e v,c.res=some (p,e,v)->e=0
structure dQ (AH:List (List CD))(H:List Au)(C:Nat->List GC)(L:List C6)(ix:Nat->Nat×Nat):Prop where
 at':∀k,k<L.length->(ix k).1<AH.length/\∃c,(C (ix k).1)[(ix k).2]?=some c/\c.fine/\L.getD k Ax=opC AH H (ix k).1 (ix k).2 c
 mono:∀j k c d,j<k->k<L.length->(C (ix j).1)[(ix j).2]?=some c->(C (ix k).1)[(ix k).2]?=some d->c.p0<d.p0
 all:∀t i c,t<AH.length->(C t)[i]?=some c->c.fine->∃k,k<L.length/\ix k=(t,i)
theorem uo{M:MD}{H:List Au}{C:Nat->List GC}(h:CC M AH H C):∃ix,dQ AH H C (OD AH (H.filterMap SX) (H.filterMap SX).length) ix:=by
 obtain⟨E,hE⟩:=gX (H.filterMap SX);obtain⟨pos,p1,p2,p3⟩:=aW SX H;rw[hE]at p1 p2 p3|-;obtain⟨idx,q1,q2,q3⟩:=aW (O8 AH E) (List.range E.length);have sT:∀i,i<E.length->E[i]?=some (E.getD i En):=λi hi=>by rw[gD,gG hi];rfl
 have Y1:∀i j,i<E.length->j<E.length->pos i<pos j->i<j:=λi j hi hj hp=>by
  rcases Fq i j with g|g|g
  .exact g
  .subst g;omega
  .have:=p2 j i g hi;omega
 have evC:∀i,i<E.length->(E.getD i En).kind=1->∃now t i' c,H[pos i]?=some ⟨now,t,i',.call⟩/\E.getD i En=⟨now,1,t,i',0,0,0⟩/\t<AH.length/\(C t)[i']?=some c/\pos i=c.p0/\
   (OP E (i+1) (E.getD i En)).map (λk=>E.getD k En)=c.res.map λr=>⟨EM H r.1,2,t,i',0,r.2.1,r.2.2⟩:=λi hi hk=>by
  obtain⟨A,a1,a2⟩:=p1 i _ (sT i hi);obtain⟨now,t,i',w⟩:=A
  have hw:w= .call:=by
   obtain⟨X,hX⟩:=gX (E.getD i En);rw[hX]at hk a2;cases w with
   |call=>rfl
   |note k=>cases a2;cases hk
   |ret e v=>cases a2;cases hk
   |Kp a=>cases a2
   |fin a x=>cases a2
   |halt=>cases a2;cases hk
  subst hw;have a3:E.getD i En=⟨now,1,t,i',0,0,0⟩:=(El a2).symm;obtain⟨ht,hc⟩:=h.Rm _ _ a1;rcases hc with hc|⟨c,c1,c2⟩
  .cases hc
  dsimp only at ht c1 c2;refine⟨now,t,i',c,a1,a3,ht,c1,c2,?_⟩;rw[a3];have hok:=h.call t ht i' c c1;cases e:OP E (i+1) ⟨now,1,t,i',0,0,0⟩with
  |none=>
   cases er:c.res with
   |none=>rfl
   |some r=>
    exfalso;obtain⟨p,er',v⟩:=r;obtain⟨r1,n2,r2⟩:=hok.res p er' v er;obtain⟨k,k1,k2⟩:=p3 p _ _ r2 rfl;have hle:=hok.seq.A7;have hik:=Y1 i k hi k1 (by rw[k2,c2];omega);have hn:=List.find?_eq_none.1 e k (Dz.2 k1);refine hn ?_
    have hEk:E.getD k En=⟨n2,2,t,i',0,er',v⟩:=by
     obtain⟨A',b1,b2⟩:=p1 k _ (sT k k1);rw[k2,r2]at b1;cases b1;exact(El b2).symm
    rw[hEk];simp[R6];omega
  |some k=>
   have hm:=List.find?_some e;have hk1:=Dz.1 (tU e);rw[Fh]at hm;obtain⟨_,hm⟩:=hm;obtain⟨A',b1,b2⟩:=p1 k _ (sT k hk1);obtain⟨n',t',i2,w'⟩:=A';obtain⟨X,hX⟩:=gX (E.getD k En);rw[hX]at hm b2;cases w' with
   |ret er v=>
    have b3:X=⟨n',2,t',i2,0,er,v⟩:=(El b2).symm;subst b3;simp[R6]at hm;obtain⟨m1,m2⟩:=hm;obtain rfl:t'=t:=J;obtain rfl:i2=i':=J;obtain⟨_,hc'⟩:=h.Rm _ _ b1;rcases hc' with hc'|⟨c',c3,c4⟩
    .cases hc'
    dsimp only at c3 c4;rw[c1]at c3;cases c3;rw[c4];show some (E.getD k En)=_;rw[hX];simp[EM,b1]
   |call=>cases b2;simp[R6]at hm
   |note k=>cases b2;simp[R6]at hm
   |Kp a=>cases b2
   |fin a x=>cases b2
   |halt=>cases b2;simp[R6]at hm
 have ofE:∀i,i<E.length->(E.getD i En).kind=1->∃t i' c,t<AH.length/\(C t)[i']?=some c/\pos i=c.p0/\(∃now,H[pos i]?=some ⟨now,t,i',.call⟩)/\(∀o,O8 AH E i=some o->c.fine/\o=opC AH H t i' c)/\(c.fine->O8 AH E i≠none):=λi hi hk=>by
  obtain⟨now,t,i',c,a1,a2,a3,a4,a5,a6⟩:=evC i hi hk;refine⟨t,i',c,a3,a4,a5,⟨now,a1⟩,?_⟩;have hcd:mV AH (E.getD i En)=AN AH t i':=by rw[a2];rfl
  have FU:EM H c.p0=now:=by unfold EM;rw[<-a5,a1]
  unfold O8;rw[AK hk,a6,hcd,a2];unfold opC GC.fine;cases er:c.res with
  |none=>
   refine⟨λo ho=>?_,λ_ hn=>(by cases hn)⟩;cases ho
   exact⟨λp e v q=>(by cases q),by rw[FU]⟩
  |some r=>
   obtain⟨p,e,v⟩:=r;show(∀o,(if e=0 then _ else none)=some o->_)/\_;refine⟨λo ho=>?_,λhf hn=>?_⟩
   .by_cases e0:e=0
    .rw[AK e0]at ho;cases ho;exact⟨λp' e' v' q=>(by cases q;exact e0),by rw[FU]⟩
    .rw[AI e0]at ho;cases ho
   .have e0:=hf p e v rfl;have hn':(if e=0 then(some (⟨now,EM H p,decide ((AN AH t i').1=16),if(AN AH t i').1=16 then(AN AH t i').2.2 else v,t⟩:C6))else none)=none:=hn;rw[AK e0]at hn';cases hn'
 have ACs:∀i o,O8 AH E i=some o->(E.getD i En).kind=1:=λi o ho=>by
  unfold O8 at ho;split at ho
  .assumption
  .cases ho
 obtain⟨ix,hix⟩:∃ix:Nat->Nat×Nat,∀k A,H[pos (idx k)]?=some A->ix k=(A.t,A.i):=⟨λk=>match H[pos (idx k)]? with|some A=>(A.t,A.i)|none=>(0,0),λk A hA=>by dsimp only;rw[hA]⟩
 have atk:∀k,k<(OD AH E E.length).length->idx k<E.length/\(E.getD (idx k) En).kind=1/\O8 AH E (idx k)=some ((OD AH E E.length).getD k Ax):=λk hk=>by
  obtain⟨i,i1,i2⟩:=q1 k ((OD AH E E.length).getD k Ax) (by show(OD AH E E.length)[k]?=_;rw[gD,gG hk];rfl);have hlt:=(Be.1 i1).1;rw[Uq]at hlt;rw[Qp hlt]at i1;have:=El i1;subst this;exact⟨hlt,ACs _ _ i2,i2⟩
 have ixC:∀k,k<(OD AH E E.length).length->(ix k).1<AH.length/\∃c,(C (ix k).1)[(ix k).2]?=some c/\c.fine/\(OD AH E E.length).getD k Ax=opC AH H (ix k).1 (ix k).2 c/\c.p0=pos (idx k):=λk hk=>by
  obtain⟨a1,a2,a3⟩:=atk k hk;obtain⟨t,i',c,b1,b2,b3,⟨now,b4⟩,b5,_⟩:=ofE _ a1 a2;rw[hix k _ b4];exact⟨b1,c,b2,(b5 _ a3).1,(b5 _ a3).2,b3.symm⟩
 refine⟨ix,λk hk=>?_,λj k c d hjk hk hc hd=>?_,λt i c ht hc hf=>?_⟩
 .obtain⟨a1,c,a2,a3,a4,_⟩:=ixC k hk;exact⟨a1,c,a2,a3,a4⟩
 .obtain⟨_,c',a2,_,_,a5⟩:=ixC j J;obtain⟨_,d',b2,_,_,b5⟩:=ixC k hk;rw[hc]at a2;cases a2;rw[hd]at b2;cases b2;rw[a5,b5];exact p2 _ _ (q2 j k hjk hk) (atk k hk).1
 .obtain⟨now,h0⟩:=(h.call t ht i c hc).aO;obtain⟨k,k1,k2⟩:=p3 c.p0 _ _ h0 rfl
  have hEk:E.getD k En=⟨now,1,t,i,0,0,0⟩:=by
   obtain⟨A',b1,b2⟩:=p1 k _ (sT k k1);rw[k2,h0]at b1;cases b1;exact(El b2).symm
  obtain⟨t',i',c',b1,b2,b3,⟨n2,b4⟩,b5,b6⟩:=ofE k k1 (by rw[hEk]);rw[k2,h0]at b4;cases b4;rw[hc]at b2;cases b2;cases eo:O8 AH E k with
  |none=>exact absurd eo (b6 hf)
  |some o=>
   obtain⟨m,m1,m2⟩:=q3 k k o (Qp k1) eo;exact⟨m,m1,hix m _ (by rw[m2,k2];exact h0)⟩
theorem Tw{l:List C6}{t:tyI}{o:C6}:∀(j:tyN),(∀i,i<j->(l.getD i Ax).LD=t->Bt (l.getD i Ax) o=true)->Mz (lastOf l t j) o=true
 |0,_=>rfl
 |j+1,h=>by
  unfold lastOf;split
  .exact h j (I7 j) (by assumption)
  .exact Tw j λi hi=>h i J
theorem Tk{a b:C6}:Bt a b=true↔a.to≠ -1/\a.to<b.Ko:=by
 unfold Bt;rw[Fh,Ol,decide_eq_true_iff]
variable {M:MD}{AH:List (List CD)}{H:List Au}{C:Nat->List GC}{L:List C6}{ix:Nat->Nat×Nat}
theorem Hp(h:fB H){q:tyN}(hpq:p<=q)(hq:q<H.length):EM H p<=EM H q:=by
 unfold EM;rw[gG (by omega:p<H.length),gG hq];rcases CR p q with g|g
 .have:=(h p q _ _ g (gG J) (gG hq)).1;dsimp only;omega
 .obtain rfl:p=q:=J;exact In _
theorem CC.GI(h:CC M AH H C)(ht:t<AH.length){c:GC}(hc:(C t)[i]?=some c){e v:tyI}(hr:c.res=some (p,e,v)):c.p0<p/\p<H.length:=by
 have hok:=h.call t ht i c hc;obtain⟨h1,n,h2⟩:=hok.res p e v hr;have:=hok.seq.A7;exact⟨J,(Be.1 h2).1⟩
theorem CC.then(h:CC M AH H C)(hF:Si H){t':tyN}(ht:t<AH.length)(ht':t'<AH.length){c d:GC}(hc:(C t)[i]?=some c)(hd:(C t')[j]?=some d){e v:tyI}(hr:c.res=some (p,e,v)):EM H p<EM H d.p0↔p<d.p0:=by
 have h1:=h.GI ht hc hr;have h2:=h.cZ ht' hd
 constructor
 .intro g;rcases CR p d.p0 with k|k
  .exact k
  .have:=Hp h.O7 k h1.2;omega
 .intro g;obtain⟨now,h3⟩:=(h.call t' ht' j d hd).aO;have:=hF p d.p0 _ _ g (gG h1.2) h3 rfl;unfold EM;rw[h3,gG h1.2];dsimp only at this|-;omega
theorem dQ.inj(hH:dQ AH H C L ix)(hj:j<L.length)(hk:k<L.length)(e:ix j=ix k):j=k:=by
 obtain⟨_,c,c1,_⟩:=hH.at' j hj;obtain⟨_,d,d1,_⟩:=hH.at' k hk;have:c=d:=by rw[e]at c1;exact El (c1.symm.trans d1)
 rcases Fq j k with g|g|g
 .have:=hH.mono j k c d g hk c1 d1;subst c;omega
 .exact g
 .have:=hH.mono k j d c g hj d1 c1;subst c;omega
theorem dQ.ahead(hH:dQ AH H C L ix)(h:CC M AH H C)(hF:Si H)(hj:j<L.length)(hk:k<L.length){c d:GC}(hc:(C (ix j).1)[(ix j).2]?=some c)(hd:(C (ix k).1)[(ix k).2]?=some d):Bt (L.getD j Ax) (L.getD k Ax)=true↔∃p e v,c.res=some (p,e,v)/\p<d.p0:=by
 obtain⟨tj,c',c1,c2,c3⟩:=hH.at' j hj;obtain⟨tk,d',d1,d2,d3⟩:=hH.at' k hk;rw[hc]at c1;cases c1;rw[hd]at d1;cases d1;rw[Tk,c3,d3];unfold opC;cases e:c.res with
 |none=>simp
 |some r=>
  obtain⟨p,er,v⟩:=r;have:=h.then hF tj tk hc hd e;have h0:0<=EM H p:=by unfold EM;split<;>omega
  dsimp only;rw[this];exact⟨λq=>⟨p,er,v,rfl,q.2⟩,λ⟨p',e',v',q1,q2⟩=>by cases q1;exact⟨J,q2⟩⟩
theorem dQ.Ko(hH:dQ AH H C L ix)(h:CC M AH H C)(hjk:j<=k)(hk:k<L.length):(L.getD j Ax).Ko<=(L.getD k Ax).Ko:=by
 obtain⟨tj,c,c1,c2,c3⟩:=hH.at' j J;obtain⟨tk,d,d1,d2,d3⟩:=hH.at' k hk;rw[c3,d3];refine Hp h.O7 ?_ (h.cZ tk d1);rcases CR j k with g|g
 .exact BP (hH.mono j k c d g hk c1 d1)
 .obtain rfl:j=k:=J;rw[c1]at d1;cases d1;exact A9 _
theorem dQ.fine(hH:dQ AH H C L ix)(h:CC M AH H C)(hF:Si H)(hn:AH.length<=8):LI L=true:=by
 refine Tp λk hk=>?_
 obtain⟨tk,d,d1,d2,d3⟩:=hH.at' k hk;have h0:∀p,0<=EM H p:=λp=>by unfold EM;split<;>omega
 have e1:¬(L.getD k Ax).Ko<Fy L k:=by
  unfold Fy;split
  .rw[d3];have:=h0 d.p0;show¬EM H d.p0<0;omega
  .have:=hH.Ko h (show k-1<=k by omega) hk;omega
 have e2:(((L.getD k Ax).to != -1)&&decide ((L.getD k Ax).to<(L.getD k Ax).Ko))=false:=by
  rw[d3];unfold opC;cases e:d.res with
  |none=>rfl
  |some r=>
   obtain⟨p,er,v⟩:=r;have h1:=h.GI tk d1 e;have:=Hp h.O7 (BP h1.1) h1.2;dsimp only;rw[DF J,bd]
 have e3:(L.getD k Ax).LD=((ix k).1:tyI):=by rw[d3];rfl
 unfold Jl;rw[DF e1,e2,e3,Fi J,Fi J];refine Tw k λi hi ht=>?_
 obtain⟨ti,c,c1,c2,c3⟩:=hH.at' i J;have ht':(ix i).1=(ix k).1:=by rw[c3]at ht;exact Int.ofNat.inj ht
 have hm:=hH.mono i k c d hi hk c1 d1;refine(hH.ahead h hF J hk c1 d1).2 ?_;rcases Fq (ix i).2 (ix k).2 with g|g|g
 .exact h.calls ti g c1 (by rw[ht'];exact d1)
 .rw[ht',g,d1]at c1;cases c1;omega
 .obtain⟨p,e,v,q1,q2⟩:=h.calls tk g d1 (by rw[<-ht'];exact c1);have:=(h.GI tk d1 q1).1;omega
structure Vj (AH:List (List CD))(C:Nat->List GC)(tag:Nat->Nat->Int)(Gw:Nat->Nat->Prop):Prop where
 w1:∀(t i:tyN) (c:GC),t<AH.length->(C t)[i]?=some c->c.fine->(AN AH t i).1=16->c.res≠none->Gw t i
 ew:∀(t i:tyN),Gw t i->t<AH.length/\(AN AH t i).1=16/\0<=tag t i/\∃c,(C t)[i]?=some c/\c.fine
 uniq:∀(t i t' i':tyN),Gw t i->Gw t' i'->tag t i=tag t' i'->t=t'/\i=i'
 rd:∀(t i:tyN) (c:GC) (p:tyN) (e v:tyI),t<AH.length->(C t)[i]?=some c->c.fine->(AN AH t i).1≠16->c.res=some (p,e,v)->(tag t i<0/\v=0)\/∃t' i',Gw t' i'/\tag t' i'=tag t i/\v=(AN AH t' i').2.2
 pw:∀(t i t' i':tyN) (c d:GC) (p:tyN) (e v:tyI),t<AH.length->(C t)[i]?=some c->c.fine->c.res=some (p,e,v)->Gw t' i'->(C t')[i']?=some d->p<d.p0->tag t i<tag t' i'
 pr:∀(t i t' i':tyN) (c d:GC) (p:tyN) (e v:tyI),t<AH.length->t'<AH.length->(C t)[i]?=some c->c.fine->c.res=some (p,e,v)->(C t')[i']?=some d->d.fine->(AN AH t' i').1≠16->d.res≠none->p<d.p0->tag t i<=tag t' i'
theorem WQ(f:Nat->Nat):∀n,∃K,∀k,k<n->f k<K
 |0=>⟨0,λk h=>J⟩
 |n+1=>by
  obtain⟨K,h⟩:=WQ f n;refine⟨K+f n+1,λk hk=>?_⟩;rcases CR k n with g|g
  .have:=h k g;omega
  .obtain rfl:k=n:=J;omega
theorem Vj.comp{tag:Nat->Nat->Int}{Gw:Nat->Nat->Prop}(hT:Vj AH C tag Gw)(hH:dQ AH H C L ix)(h:CC M AH H C)(hF:Si H)(hn:L.length<=60):Ow L 0 0:=by
 obtain⟨tg,zZ⟩:∃tg:Nat->Nat,∀k,tg k=(tag (ix k).1 (ix k).2+1).toNat:=⟨_,λ_=>rfl⟩;obtain⟨key,hkey⟩:∃key:Nat->Nat,∀k,key k=tg k*64+if(L.getD k Ax).wr=true then 0 else 1+k:=⟨_,λ_=>rfl⟩
 obtain⟨K,hK⟩:=WQ key L.length
 have QC:∀k,k<L.length->((L.getD k Ax).wr=true↔(AN AH (ix k).1 (ix k).2).1=16):=λk hk=>by
  obtain⟨_,c,_,_,c3⟩:=hH.at' k hk;rw[c3];unfold opC;simp
 have toI:∀k c,k<L.length->(C (ix k).1)[(ix k).2]?=some c->((L.getD k Ax).to≠ -1↔c.res≠none):=λk c hk hc=>by
  obtain⟨_,c',c1,_,c3⟩:=hH.at' k hk;rw[hc]at c1;cases c1;rw[c3];unfold opC;cases e:c.res with
  |none=>simp
  |some r=>
   obtain⟨p,er,v⟩:=r;have h0:0<=EM H p:=by unfold EM;split<;>omega
   simp;omega
 have sw:∀k,k<L.length->(L.getD k Ax).wr=true->((L.getD k Ax).to≠ -1\/Gw (ix k).1 (ix k).2)->Gw (ix k).1 (ix k).2/\1<=tg k/\(tg k:tyI)=tag (ix k).1 (ix k).2+1:=λk hk hw hs=>by
  obtain⟨tk,c,c1,c2,_⟩:=hH.at' k hk;have he:Gw (ix k).1 (ix k).2:=hs.elim (λq=>hT.w1 _ _ c tk c1 c2 ((QC k hk).1 hw) ((toI k c hk c1).1 q)) id;have:=(hT.ew _ _ he).2.2.1;rw[zZ];exact⟨he,J,J⟩
 have sr:∀k,k<L.length->(L.getD k Ax).wr=false->((L.getD k Ax).to≠ -1\/Gw (ix k).1 (ix k).2)->(L.getD k Ax).to≠ -1:=λk hk hw hs=>hs.elim id λq=>by
  have:=(QC k hk).2 (hT.ew _ _ q).2.1;rw[hw]at this;cases this
 refine eV (S:=λk=>k<L.length/\((L.getD k Ax).to≠ -1\/Gw (ix k).1 (ix k).2)) (key:=key) (K:=K) (λk hk=>⟨hk.1,hK k hk.1⟩) (λi j hi hj e=>?_) (λi hi hto=>⟨hi,.inl hto⟩) (λi j hi hj ha=>?_) (λi hi hw hto=>?_)
 .rw[hkey,hkey]at e;cases wi:(L.getD i Ax).wr with
  |true=>
   cases wj:(L.getD j Ax).wr with
   |true=>
    rw[wi,wj]at e;obtain⟨a1,a2,a3⟩:=sw i hi.1 wi hi.2;obtain⟨b1,b2,b3⟩:=sw j hj.1 wj hj.2;simp at e;obtain⟨q1,q2⟩:=hT.uniq _ _ _ _ a1 b1 J;exact hH.inj hi.1 hj.1 (ey q1 q2)
   |false=>rw[wi,wj]at e;simp at e;have:=hi.1;have:=hj.1;omega
  |false=>
   cases wj:(L.getD j Ax).wr with
   |true=>rw[wi,wj]at e;simp at e;have:=hi.1;have:=hj.1;omega
   |false=>rw[wi,wj]at e;simp at e;have:=hi.1;have:=hj.1;omega
 .obtain⟨tc,c,c1,c2,c3⟩:=hH.at' i hi;obtain⟨td,d,d1,d2,d3⟩:=hH.at' j hj.1;obtain⟨p,e,v,r1,r2⟩:=(hH.ahead h hF hi hj.1 c1 d1).1 ha;have hto:(L.getD i Ax).to≠ -1:=(toI i c hi c1).2 (by rw[r1];simp);refine⟨⟨hi,.inl hto⟩,?_⟩;have hjl:=hj.1;rw[hkey,hkey];cases wj:(L.getD j Ax).wr with
  |true=>
   obtain⟨b1,b2,b3⟩:=sw j hj.1 wj hj.2;have hlt:=hT.pw _ _ _ _ c d p e v tc c1 c2 r1 b1 d1 r2;cases wi:(L.getD i Ax).wr with
   |true=>
    obtain⟨a1,a2,a3⟩:=sw i hi wi (.inl hto);simp;omega
   |false=>
    have:=zZ i;simp;omega
  |false=>
   have hle:=hT.pr _ _ _ _ c d p e v tc td c1 c2 r1 d1 d2 (λq=>by have:=(QC j hj.1).2 q;rw[wj]at this;cases this) ((toI j d hj.1 d1).1 (sr j hj.1 wj hj.2)) r2
   have hij:i<j:=by
    rcases CR i j with g|g
    .exact g
    .have h1:=hH.Ko h g hi;have h2:=Tk.1 ha
     have h3:(L.getD i Ax).Ko<=(L.getD i Ax).to:=by
      rw[c3];unfold opC;rw[r1];have h4:=h.GI tc c1 r1;exact Hp h.O7 (BP h4.1) h4.2
     omega
   have g1:=zZ i;have g2:=zZ j;cases wi:(L.getD i Ax).wr with
   |true=>simp;omega
   |false=>simp;omega
 .obtain⟨tc,c,c1,c2,c3⟩:=hH.at' i hi.1;have hwc:(AN AH (ix i).1 (ix i).2).1≠16:=λq=>by have:=(QC i hi.1).2 q;rw[hw]at this;cases this
  cases e:c.res with
  |none=>exact absurd e ((toI i c hi.1 c1).1 hto)
  |some r=>
   obtain⟨p,er,v⟩:=r;have hval:(L.getD i Ax).val=v:=by rw[c3];unfold opC;rw[AI hwc,e]
   have g1:=zZ i;rw[hval];have kw:∀w,w<L.length->(L.getD w Ax).wr=true->key w=tg w*64:=λw _ q=>by rw[hkey,AK q];rfl
   have ki:key i=tg i*64+(1+i):=by rw[hkey,AI (by rw[hw];simp)]
   have hil:=hi.1;rcases hT.rd _ _ c p er v tc c1 c2 hwc e with⟨q1,q2⟩|⟨t',i',q1,q2,q3⟩
   .refine .inr ⟨λw hs jW=>?_,q2⟩;obtain⟨a1,a2,a3⟩:=sw w hs.1 jW hs.2;rw[kw w hs.1 jW,ki];omega
   .obtain⟨t1,t2,t3,d,d1,d2⟩:=hT.ew _ _ q1;obtain⟨w,w1,w2⟩:=hH.all t' i' d t1 d1 d2;have jW:(L.getD w Ax).wr=true:=(QC w w1).2 (by rw[w2];exact t2);have g2:=zZ w;rw[w2]at g2;dsimp only at g2;refine .inl ⟨w,⟨w1,.inr (by rw[w2];exact q1)⟩,jW,?_,λw' hs ACv hlt=>?_,?_⟩
    .rw[kw w w1 jW,ki];omega
    .rw[kw w w1 jW];rw[kw w' hs.1 ACv,ki]at hlt;rw[kw w' hs.1 ACv];omega
    .obtain⟨_,d',e1,_,e3⟩:=hH.at' w w1;rw[e3,w2];unfold opC;dsimp only;rw[AK t2];exact q3
end
section
open Go.RowKit
def Kh {α β:Type}(f:α->List β)(Z:List α)(i:tyN):Nat:=((Z.take i).flatMap f).length
section
variable {α β:Type}{f:α->List β}{Z:List α}
theorem PE{z:α}(h:Z[i]?=some z):Kh f Z (i+1)=Kh f Z i+(f z).length:=by
 unfold Kh;rw[vE,h,pI,Y8,Gx];simp
theorem T6(h:i<=j):Kh f Z i<=Kh f Z j:=by
 induction j with
 |zero=>obtain rfl:i=0:=J
        exact A9 _
 |succ j ih=>
  rcases CR i (j+1)with g|g
  .refine DB (ih J) ?_;cases e:Z[j]? with
   |some z=>rw[PE (f:=f) e];exact qz _ _
   |none=>unfold Kh;rw[vE,e,zz8,Jc];exact A9 _
  .obtain rfl:i=j+1:=J;exact A9 _
theorem Lo{z:α}{u:β}(h:Z[i]?=some z)(hz:f z=[u]):(Z.flatMap f)[Kh f Z i]?=some u:=by
 have hlt:=(Be.1 h).1
 have e:Z=Z.take i++z::Z.drop (i+1):=by
  have:Z[i]=z:=(Be.1 h).2;rw[<-this,AAc,vY]
 unfold Kh
 conv=>lhs;lhs;rw[e]
 rw[Y8,Gb (A9 _),VN,It,hz];rfl
theorem KF{z:α}{u:β}(h:Z[i]?=some z)(hz:f z=[u])(hij:i<j):Kh f Z i<Kh f Z j:=by
 have h1:=PE (f:=f) h;have h2:=T6 (f:=f) (Z:=Z) (show i+1<=j from hij);rw[hz,IN]at h1;omega
theorem Lk:∀{Z:List α},(∀z,z∈Z->f z=[]\/∃u,f z=[u])->∀{m:tyN} {u:β},(Z.flatMap f)[m]?=some u->∃i z,Z[i]?=some z/\f z=[u]/\Kh f Z i=m
 |[],_,m,u,h=>by simp at h
 |z::Z,hz,m,u,h=>by
  rcases hz z (.head _)with e|⟨v,e⟩
  .rw[It,e,PL]at h;obtain⟨i,y,h1,h2,h3⟩:=Lk (λy hy=>hz y (.tail _ hy)) h;refine⟨i+1,y,by rw[Kk];exact h1,h2,?_⟩;rw[<-h3];unfold Kh;rw[aE,It,e,PL]
  .rw[It,e]at h;cases m with
   |zero=>
    simp at h;subst h;exact⟨0,z,rfl,e,rfl⟩
   |succ m=>
    have h':(Z.flatMap f)[m]?=some u:=by simpa using h
    obtain⟨i,y,h1,h2,h3⟩:=Lk (λy hy=>hz y (.tail _ hy)) h';refine⟨i+1,y,by rw[Kk];exact h1,h2,?_⟩;rw[<-h3];unfold Kh;rw[aE,It,e];simp
end
theorem ss(u:Ch)(h:Seq u.lo u.its):u.lo<=u.fb:=by
 unfold Ch.fb;cases hi:u.its with
 |nil=>exact A9 _
 |cons a L=>
  rw[hi]at h;cases a with
  |note k p=>exact BP h.1
  |acc a b e x=>exact BP h.1
def JZ (AH:List (List CD))(N:tyN)(t i:tyN)(c:GC)(K:List Ch):Prop:=
 (K=[]/\c.res=none)\/∃u,K=[u]/\c.p0<=u.fb/\(u.a.1≠1↔(AN AH t i).1=16)/\(u.a.1≠1->u.a.2.2=(AN AH t i).2.2)/\∀p e v,c.res=some (p,e,v)->p<N/\u.e N<p/\∃x,u.res=some x/\(u.a.1=1->v=x)
theorem qd{N:tyN}{C:Nat->List GC}{W:Nat->List (GC×List Ch)}{tag:Nat->Nat->Int}{Gw:Nat->Nat->Prop}(hU:MW N (λt=>(W t).flatMap Prod.snd) tag Gw)(hW:∀t,t<AH.length->(W t).map Prod.fst=C t)(hout:∀t,AH.length<=t->W t=[])
  (hc:∀(t i:tyN) (c:GC) (K:List Ch),t<AH.length->(W t)[i]?=some (c,K)->c.fine/\JZ AH N t i c K):∃tag Gw,Vj AH C tag Gw:=by
 have at':∀(t i:tyN) (c:GC),t<AH.length->(C t)[i]?=some c->∃K,(W t)[i]?=some (c,K):=λt i c ht h=>by
  rw[<-hW t ht,BY]at h;cases e:(W t)[i]? with
  |none=>rw[e]at h;cases h
  |some z=>rw[e]at h;cases h;exact⟨z.2,rfl⟩
 have back:∀(t i:tyN) (c:GC) (K:List Ch),t<AH.length->(W t)[i]?=some (c,K)->(C t)[i]?=some c:=λt i c K ht h=>by rw[<-hW t ht,BY,h];rfl
 have Y1:∀(t i:tyN) (z:GC×List Ch),(W t)[i]?=some z->t<AH.length:=λt i z h=>by
  rcases CR t AH.length with g|g
  .exact g
  .rw[hout t g]at h;simp at h
 have few:∀t z,z∈W t->Prod.snd z=[]\/∃u,Prod.snd z=[u]:=λt z hz=>by
  obtain⟨i,hi,e⟩:=Dj hz;have h1:(W t)[i]?=some z:=by rw[gG hi,e]
  rcases(hc t i z.1 z.2 (Y1 t i z h1) h1).2 with⟨q,_⟩|⟨u,q,_⟩
  .exact .inl q
  .exact .inr ⟨u,q⟩
 obtain⟨φ,hφ⟩:∃φ:Nat->Nat->Nat,∀t i,φ t i=Kh Prod.snd (W t) i:=⟨_,λ_ _=>rfl⟩
 have done:∀(t i:tyN) (c:GC) (p:tyN) (e v:tyI),t<AH.length->(C t)[i]?=some c->c.res=some (p,e,v)->∃u x,(W t)[i]?=some (c,[u])/\((W t).flatMap Prod.snd)[φ t i]?=some u/\(u.a.1≠1↔(AN AH t i).1=16)/\u.res=some x/\(u.a.1=1->v=x)/\u.e N<p/\p<N/\c.p0<=u.fb:=λt i c p e v ht h hr=>by
  obtain⟨K,hK⟩:=at' t i c ht h;rcases(hc t i c K ht hK).2 with⟨_,q⟩|⟨u,q1,q2,q3,_,q4⟩
  .rw[hr]at q;cases q
  .subst q1;obtain⟨q5,q6,x,q7,q8⟩:=q4 p e v hr;exact⟨u,x,hK,by rw[hφ];exact Lo hK rfl,q3,q7,q8,q6,q5,q2⟩
 have ACw:∀t m,Gw t m->∃i c u,t<AH.length/\(W t)[i]?=some (c,[u])/\φ t i=m/\((W t).flatMap Prod.snd)[m]?=some u/\(AN AH t i).1=16/\u.a.2.2=(AN AH t i).2.2/\0<=tag t m:=λt m he=>by
  obtain⟨u,h1,h2,h3⟩:=hU.ew t m he;obtain⟨i,⟨c,K⟩,g1,g2,g3⟩:=Lk (few t) h1;have g2':K=[u]:=g2;subst g2';have ht:=Y1 t i _ g1;rcases(hc t i c [u] ht g1).2 with⟨q,_⟩|⟨u',q1,q2,q3,q4,_⟩
  .cases q
  .cases q1
   exact⟨i,c,u,ht,g1,by rw[hφ];exact g3,h1,q3.1 h2,q4 h2,h3⟩
 refine⟨λt i=>tag t (φ t i),λt i=>(∃c u,(W t)[i]?=some (c,[u]))/\Gw t (φ t i),?_,?_,?_,?_,?_,?_⟩
 .intro t i c ht h hf hw hr;cases e:c.res with
  |none=>exact absurd e hr
  |some r=>
   obtain⟨p,er,v⟩:=r;obtain⟨u,x,h1,h2,h3,h4,h5,h6,h7,h8⟩:=done t i c p er v ht h e;exact⟨⟨c,u,h1⟩,hU.w1 t _ u h2 (h3.2 hw) J⟩
 .rintro t i ⟨⟨c,u,h1⟩,h2⟩;obtain⟨i',c',u',g1,g2,g3,g4,g5,g6,g7⟩:=ACw t _ h2
  have:i=i':=by
   rcases Fq i i' with q|q|q
   .have:=KF (f:=Prod.snd) h1 rfl q;rw[hφ,hφ]at g3;omega
   .exact q
   .have:=KF (f:=Prod.snd) g2 rfl q;rw[hφ,hφ]at g3;omega
  subst this;rw[h1]at g2;cases g2;exact⟨g1,g5,g7,c,back t i c _ g1 h1,(hc t i c _ g1 h1).1⟩
 .rintro t i t' i' ⟨⟨c,u,h1⟩,h2⟩ ⟨⟨c',u',h1'⟩,h2'⟩ e;obtain⟨e1,e2⟩:=hU.uniq _ _ _ _ h2 h2' e;subst e1;refine⟨rfl,?_⟩;rw[hφ,hφ]at e2;rcases Fq i i' with q|q|q
  .have:=KF (f:=Prod.snd) h1 rfl q;omega
  .exact q
  .have:=KF (f:=Prod.snd) h1' rfl q;omega
 .intro t i c p e v ht h hf hw hr;obtain⟨u,x,h1,h2,h3,h4,h5,h6,h7,h8⟩:=done t i c p e v ht h hr
  have hu1:u.a.1=1:=by
   by_cases q:u.a.1=1
   .exact q
   .exact absurd (h3.1 q) hw
  rcases hU.rd t _ u x h2 hu1 h4 J with⟨q1,q2⟩|⟨t',m,w,q1,q2,q3,q4,_⟩
  .exact .inl ⟨q1,(h5 hu1).trans q2⟩
  .obtain⟨i',c',u',g1,g2,g3,g4,g5,g6,g7⟩:=ACw t' m q1;have g4':((W t').flatMap Prod.snd)[m]?=some w:=q2;rw[g4']at g4;cases g4;exact .inr ⟨t',i',⟨⟨c',w,g2⟩,by rw[g3];exact q1⟩,by rw[g3];exact q3,by rw[h5 hu1,q4,g6]⟩
 .rintro t i t' i' c d p e v ht h hf hr ⟨⟨d',u',h1'⟩,h2'⟩ hd hlt;obtain⟨u,x,h1,h2,h3,h4,h5,h6,h7,h8⟩:=done t i c p e v ht h hr;have ht':=Y1 _ _ _ h1';have:=back t' i' _ _ ht' h1';rw[hd]at this;cases this;rcases(hc t' i' d [u'] ht' h1').2 with⟨q,_⟩|⟨u2,q1,q2,_⟩
  .cases q
  .cases q1
   exact hU.pw t _ t' _ u u' h2 J (by rw[hφ];exact Lo h1' rfl) h2' J
 .intro t i t' i' c d p e v ht ht' h hf hr hd hfd hw hrd hlt;obtain⟨u,x,h1,h2,h3,h4,h5,h6,h7,h8⟩:=done t i c p e v ht h hr;cases er:d.res with
  |none=>exact absurd er hrd
  |some r=>
   obtain⟨p',e',v'⟩:=r;obtain⟨u',x',k1,k2,k3,k4,k5,k6,k7,k8⟩:=done t' i' d p' e' v' ht' hd er
   have hu1:u'.a.1=1:=by
    by_cases q:u'.a.1=1
    .exact q
    .exact absurd (k3.1 q) hw
   exact hU.pr t _ t' _ u u' h2 J k2 hu1 J J
def GC.kS (c:GC):Bool:=match c.res with
 |none=>true
 |some r=>decide (r.2.1=0)
theorem GC.Hu(c:GC):c.kS=true↔c.fine:=by
 unfold GC.kS GC.fine;cases e:c.res with
 |none=>exact⟨λ_ p e v q=>(by cases q),λ_=>rfl⟩
 |some r=>
  obtain⟨p,er,v⟩:=r;dsimp only;rw[decide_eq_true_iff];exact⟨λh p' e' v' q=>(by cases q;exact h),λh=>h p er v rfl⟩
def Y9 (AH:List (List CD))(w:tyN)(c:GC)(i:tyN):Bool:=c.kS&&decide ((AN AH w i).1=16)
def LX (AH:List (List CD))(N w:tyN)(z:(GC×List Ch)×Nat):List (WR×Bool):=
 if Y9 AH w z.1.1 z.2=true then
  match z.1.2,z.1.1.res with
  |u::_,_=>[(u.wr N,true)]
  |[],none=>[(⟨(AN AH w z.2).2.2,N,N⟩,false)]
  |[],some _=>[(⟨(AN AH w z.2).2.2,z.1.1.p0,z.1.1.p0⟩,false)]
 else[]
def Sm (AH:List (List CD))(w:tyN)(W:List (GC×List Ch)):Nat->Int
 |0=>0
 |i+1=>match W[i]? with
  |none=>Sm AH w W i
  |some z=>if Y9 AH w z.1 i=true then(AN AH w i).2.2 else Sm AH w W i
def qy (AH:List (List CD))(N w:tyN)(W:List (GC×List Ch))(i:tyN)(c:GC)(K:List Ch):Prop:=
 (¬c.fine/\K=[])\/(c.fine/\(AN AH w i).1=16/\(JZ AH N w i c K\/(K=[]/\c.res≠none/\(AN AH w i).2.2=Sm AH w W i)))\/(c.fine/\(AN AH w i).1≠16/\K=[]/\∀p e v,c.res=some (p,e,v)->v=Sm AH w W i)
def el (AH:List (List CD))(N t i:tyN)(c:GC)(K:List Ch):Prop:=(¬c.fine/\K=[])\/(c.fine/\(AN AH t i).1≠16/\JZ AH N t i c K)
theorem Pm{AH:List (List CD)}{N w:tyN}:∀(Z:List ((GC×List Ch)×Nat)),(∀z,z∈Z->((LX AH N w z).filter (·.2)).map (·.1)=z.1.2.map (Ch.wr N))->((Z.flatMap (LX AH N w)).filter (·.2)).map (·.1)=((Z.map Prod.fst).flatMap Prod.snd).map (Ch.wr N)
 |[],_=>rfl
 |z::Z,h=>by
  rw[It,IV,Gu,Pm Z λy hy=>h y (.tail _ hy),h z (.head _),Gf,It,Gu]
theorem VS{M:MD}{H:List Au}{C:Nat->List GC}(hL:CC M AH H C){W:Nat->List (GC×List Ch)}{w:tyN}(hw:w<AH.length){f:Nat->Nat}(hW:∀t,t<AH.length->(W t).map Prod.fst=C t)(hout:∀t,AH.length<=t->W t=[])
  (hf:SW (((W w).flatMap Prod.snd).map (Ch.wr H.length)) (λp q x=> ∃t,t≠w/\B6 H.length ((W t).flatMap Prod.snd) p q x) f) (hrd:∀t,t≠w->(∀b e x,B6 H.length ((W t).flatMap Prod.snd) b e x->b<e/\e<H.length)/\∀b e x e' x',B6 H.length ((W t).flatMap Prod.snd) b e x->B6 H.length ((W t).flatMap Prod.snd) b e' x'->e=e'/\x=x') (hru:∀t t' b e x e' x',t≠w->t'≠w->B6 H.length ((W t).flatMap Prod.snd) b e x->B6 H.length ((W t').flatMap Prod.snd) b e' x'->t=t')
  (hown:∀(i:tyN) (c:GC) (K:List Ch),(W w)[i]?=some (c,K)->qy AH H.length w (W w) i c K) (hoth:∀(t i:tyN) (c:GC) (K:List Ch),t<AH.length->t≠w->(W t)[i]?=some (c,K)->el AH H.length t i c K) (hle:∀u,u∈(W w).flatMap Prod.snd->u.fb<=u.e H.length):∃tag Gw,Vj AH C tag Gw:=by
 obtain⟨N,hN⟩:=gX H.length;rw[hN]at hf hrd hru hown hoth hle
 have at':∀(t i:tyN) (c:GC),t<AH.length->(C t)[i]?=some c->∃K,(W t)[i]?=some (c,K):=λt i c ht h=>by
  rw[<-hW t ht,BY]at h;cases e:(W t)[i]? with
  |none=>rw[e]at h;cases h
  |some z=>rw[e]at h;cases h;exact⟨z.2,rfl⟩
 have back:∀(t i:tyN) (c:GC) (K:List Ch),t<AH.length->(W t)[i]?=some (c,K)->(C t)[i]?=some c:=λt i c K ht h=>by rw[<-hW t ht,BY,h];rfl
 obtain⟨Z,hZ⟩:=gX ((W w).zipIdx);have Zat:∀(i:tyN) (z:GC×List Ch),(W w)[i]?=some z->Z[i]?=some (z,i):=λi z h=>by rw[<-hZ,tR,h];simp
 have Zof:∀(i:tyN) (z:(GC×List Ch)×Nat),Z[i]?=some z->(W w)[i]?=some z.1/\z.2=i:=λi z h=>by
  rw[<-hZ,tR]at h;cases e:(W w)[i]? with
  |none=>rw[e]at h;cases h
  |some y=>rw[e]at h;cases h;exact⟨rfl,Az⟩
 obtain⟨P,hP⟩:=gX (Z.flatMap (LX AH N w));obtain⟨κ,hκ⟩:∃κ:Nat->Nat,∀i,κ i=Kh (LX AH N w) Z i:=⟨_,λ_=>rfl⟩
 have mk:∀(i:tyN) (c:GC) (K:List Ch),(W w)[i]?=some (c,K)->(c.fine/\(AN AH w i).1=16/\∃r:WR×Bool,LX AH N w ((c,K),i)=[r]/\r.1.v=(AN AH w i).2.2/\c.p0<=r.1.b/\r.1.b<=r.1.e/\(∀p e v,c.res=some (p,e,v)->r.1.e<p)/\(r.2=false->r.1.v=Sm AH w (W w) i\/N<=r.1.b)/\(K=[]->c.res=none->r.1.b=N))\/(¬(c.fine/\(AN AH w i).1=16)/\LX AH N w ((c,K),i)=[]/\K=[]):=λi c K h=>by
  have hp0:=hL.cZ hw (back w i c K hw h);rw[hN]at hp0;rcases hown i c K h with⟨q1,q2⟩|⟨q1,q2,q3⟩|⟨q1,q2,q3,_⟩
  .refine .inr ⟨λq=>q1 q.1,?_,q2⟩;unfold LX Y9;rw[AI (by rw[Fh,GC.Hu];exact λq=>q1 q.1)]
  .refine .inl ⟨q1,q2,?_⟩;have hb:Y9 AH w c i=true:=by unfold Y9;rw[Fh,GC.Hu,decide_eq_true_iff];exact⟨q1,q2⟩
   unfold LX;rw[AK hb];rcases q3 with(⟨e1,e2⟩|⟨u,e1,e2,e3,e4,e5⟩)|⟨e1,e2,e3⟩
   .subst e1;dsimp only;rw[e2];exact⟨_,rfl,rfl,BP hp0,A9 _,λp e v q=>(by cases q),λ_=> .inr (A9 _),λ_ _=>rfl⟩
   .subst e1;exact⟨_,rfl,e4 (e3.2 q2),e2,hle u (FZ.2 ⟨_,BI h,Bq.2 rfl⟩),λp e v q=>(e5 p e v q).2.1,λq=>(by cases q),λq=>(by cases q)⟩
   .subst e1;cases er:c.res with
    |none=>exact absurd er e2
    |some r=>
     obtain⟨p,e,v⟩:=r;have:=hL.GI hw (back w i c [] hw h) er;exact⟨_,rfl,rfl,A9 _,A9 _,λp' e' v' q=>(by cases q;exact this.1),λ_=> .inl e3,λ_ q=>(by cases q)⟩
  .refine .inr ⟨λq=>q2 q.2,?_,q3⟩;unfold LX Y9;rw[AI (by rw[Fh,decide_eq_true_iff];exact λq=>q2 q.2)]
 have few:∀z,z∈Z->LX AH N w z=[]\/∃r,LX AH N w z=[r]:=λz hz=>by
  obtain⟨i,hi,e⟩:=Dj hz;obtain⟨h1,h2⟩:=Zof i z (by rw[gG hi,e]);obtain⟨⟨c,K⟩,i'⟩:=z;subst h2;rcases mk _ c K h1 with⟨_,_,r,q,_⟩|⟨_,q,_⟩
  .exact .inr ⟨r,q⟩
  .exact .inl q
 have Y2:∀k r,P[k]?=some r->∃i c K,(W w)[i]?=some (c,K)/\LX AH N w ((c,K),i)=[r]/\κ i=k:=λk r h=>by
  rw[<-hP]at h;obtain⟨i,⟨⟨c,K⟩,i'⟩,h1,h2,h3⟩:=Lk few h;obtain⟨g1,g2⟩:=Zof i _ h1;subst g2;exact⟨_,c,K,g1,h2,by rw[hκ];exact h3⟩
 have rowP:∀i c K r,(W w)[i]?=some (c,K)->LX AH N w ((c,K),i)=[r]->P[κ i]?=some r:=λi c K r h hr=>by rw[<-hP,hκ];exact Lo (Zat i _ h) hr
 have κlt:∀i j c K r,(W w)[i]?=some (c,K)->LX AH N w ((c,K),i)=[r]->i<j->κ i<κ j:=λi j c K r h hr hij=>by rw[hκ,hκ];exact KF (Zat i _ h) hr hij
 have κle:∀i j,i<=j->κ i<=κ j:=λi j h=>by rw[hκ,hκ];exact T6 h
 have ACx:∀(i j:tyN) (c d:GC) (p:tyN) (e v:tyI),(C w)[i]?=some c->(C w)[j]?=some d->c.res=some (p,e,v)->p<d.p0->i<j:=λi j c d p e v hc hd hr hlt=>by
  have h1:=hL.GI hw hc hr;rcases Fq i j with g|g|g
  .exact g
  .subst g;rw[hc]at hd;cases hd;omega
  .obtain⟨p',e',v',q1,q2⟩:=hL.calls hw g hd hc;have:=hL.GI hw hd q1;omega
 have ACy:∀i,i<=(W w).length->Sm AH w (W w) i=EI (P.map (·.1)) (κ i):=λi=>by
  induction i with
  |zero=>intro _;rw[hκ];rfl
  |succ i ih=>
   intro hi;have h1:(W w)[i]?=some (W w)[i]:=gG J;obtain⟨⟨c,K⟩,hcK⟩:∃z,(W w)[i]=z:=⟨_,rfl⟩;rw[hcK]at h1;have h2:κ (i+1)=κ i+(LX AH N w ((c,K),i)).length:=by rw[hκ,hκ];exact PE (Zat i _ h1)
   have h3:Sm AH w (W w) (i+1)=if Y9 AH w c i=true then(AN AH w i).2.2 else Sm AH w (W w) i:=by
    show(match(W w)[i]? with|none=>_|some z=>_)=_;rw[h1]
   rw[h3,h2];rcases mk i c K h1 with⟨q1,q2,r,q3,q4,_⟩|⟨q1,q2,_⟩
   .rw[AK (by unfold Y9;rw[Fh,GC.Hu,decide_eq_true_iff];exact⟨q1,q2⟩),q3];show _=EI _ (κ i+1);rw[Bz (GP (rowP i c K r h1 q3)),q4]
   .rw[AI (by unfold Y9;rw[Fh,GC.Hu,decide_eq_true_iff];exact q1),q2,ih J];rfl
 have hf2:SW ((P.filter (·.2)).map (·.1)) (λp q x=> ∃t,t≠w/\B6 N ((W t).flatMap Prod.snd) p q x) f:=by
  rw[<-hP,Pm Z λz hz=>?_,<-hZ,List.zipIdx_map_fst]
  .exact hf
  .obtain⟨i,hi,e⟩:=Dj hz;obtain⟨h1,h2⟩:=Zof i z (by rw[gG hi,e]);obtain⟨⟨c,K⟩,i'⟩:=z;dsimp only at h1 h2;subst h2;rcases hown _ c K h1 with⟨q1,q2⟩|⟨q1,q2,q3⟩|⟨q1,q2,q3,_⟩
   .subst q2;rcases mk _ c [] h1 with⟨q,_⟩|⟨_,q,_⟩
    .exact absurd q q1
    .rw[q];rfl
   .have hb:Y9 AH w c i'=true:=by unfold Y9;rw[Fh,GC.Hu,decide_eq_true_iff];exact⟨q1,q2⟩
    unfold LX;rw[AK hb];rcases q3 with(⟨e1,e2⟩|⟨u,e1,_⟩)|⟨e1,e2,e3⟩
    .subst e1;dsimp only;rw[e2];rfl
    .subst e1;rfl
    .subst e1;dsimp only;cases er:c.res with
     |none=>rfl
     |some r=>rfl
   .subst q3;rcases mk _ c [] h1 with⟨_,q,_⟩|⟨_,q,_⟩
    .exact absurd q q2
    .rw[q];rfl
 obtain⟨f',hf'⟩:=hf2.pad (N:=N) (λb e x ⟨t,ht,q⟩=>(hrd t ht).1 b e x q) (λk r hk=>by
  obtain⟨i,c,K,h1,h2,h3⟩:=Y2 k _ hk;have hi:=(Be.1 h1).1;rcases mk i c K h1 with⟨_,_,r',q3,_,_,_,_,q4,_⟩|⟨_,q,_⟩
  .rw[h2]at q3;cases q3;rcases q4 rfl with q4|q4
   .exact .inl (by rw[<-h3,<-ACy i (BP hi)];exact q4)
   .exact .inr q4
  .rw[h2]at q;cases q) (λj k s r hjk hs hr=>by
  obtain⟨i,c,K,h1,h2,h3⟩:=Y2 j _ hs;obtain⟨i',d,K',g1,g2,g3⟩:=Y2 k _ hr
  have hii:i<i':=by
   rcases CR i i' with q|q
   .exact q
   .have:=κle i' i q;omega
  obtain⟨p,e,v,r1,r2⟩:=hL.calls hw hii (back w i c K hw h1) (back w i' d K' hw g1);rcases mk i c K h1 with⟨_,_,r',q3,_,_,_,q4,_⟩|⟨_,q,_⟩
  .rw[h2]at q3;cases q3;have:=q4 p e v r1;rcases mk i' d K' g1 with⟨_,_,du,k3,_,k4,_⟩|⟨_,q,_⟩
   .rw[g2]at k3;cases k3;omega
   .rw[g2]at q;cases q
  .rw[h2]at q;cases q) (λr hr=>by
  obtain⟨k,hk,e⟩:=Dj hr;obtain⟨i,c,K,h1,h2,h3⟩:=Y2 k r (by rw[gG hk,e]);rcases mk i c K h1 with⟨_,_,r',q3,_,_,q4,_⟩|⟨_,q,_⟩
  .rw[h2]at q3;cases q3;exact q4
  .rw[h2]at q;cases q) (λb e x e' x' ⟨t,ht,q⟩ ⟨t',ht',q'⟩=>by
  have:=hru t t' b e x e' x' ht ht' q q';subst this
  exact((hrd t ht).2 b e x e' x' q q').1)
 have jG:∀(t i:tyN) (c:GC) (p:tyN) (e v:tyI),t<AH.length->t≠w->(C t)[i]?=some c->c.fine->c.res=some (p,e,v)->(AN AH t i).1≠16/\∃u,(W t)[i]?=some (c,[u])/\(∃t,t≠w/\B6 N ((W t).flatMap Prod.snd) u.fb (u.e N) v)/\u.e N<p/\c.p0<=u.fb:=λt i c p e v ht EW hc hfi hr=>by
  obtain⟨K,hK⟩:=at' t i c ht hc;rcases hoth t i c K ht EW hK with⟨q,_⟩|⟨_,q1,q2⟩
  .exact absurd hfi q
  .rcases q2 with⟨_,q2⟩|⟨u,q2,q3,q4,q5,q6⟩
   .rw[hr]at q2;cases q2
   .subst q2;obtain⟨r1,r2,x,r3,r4⟩:=q6 p e v hr;have hu1:u.a.1=1:=TR λk=>q1 (q4.1 k)
    refine⟨q1,u,hK,⟨t,EW,u,FZ.2 ⟨_,BI hK,Bq.2 rfl⟩,rfl,rfl,by rw[r3,r4 hu1],J⟩,r2,q3⟩
 obtain⟨yH,KK⟩:∃yH:Nat->Nat->Nat,∀(t i:tyN) (c:GC) (u:Ch),(W t)[i]?=some (c,[u])->yH t i=u.fb:=⟨λt i=>match(W t)[i]? with|some (_,u::_)=>u.fb|_=>0,λt i c u h=>by dsimp only;rw[h]⟩;obtain⟨tag,htag⟩:∃tag:Nat->Nat->Int,∀t i,tag t i=if t=w then(if(AN AH w i).1=16 then(κ i:tyI)else(κ i:tyI)-1)else(f' (yH t i):tyI)-1:=⟨_,λ_ _=>rfl⟩
 have Vz:∀i,(AN AH w i).1=16->tag w i=κ i:=λi h=>by rw[htag,AK rfl,AK h]
 have oI:∀i,(AN AH w i).1≠16->tag w i=(κ i:tyI)-1:=λi h=>by rw[htag,AK rfl,AI h]
 have oJ:∀(t i:tyN) (c:GC) (u:Ch),t≠w->(W t)[i]?=some (c,[u])->tag t i=(f' u.fb:tyI)-1:=λt i c u h hu=>by rw[htag,AI h,KK t i c u hu]
 have za:∀(k:tyN) (r:WR×Bool),P[k]?=some r->(P.map (·.1))[k]?=some r.1:=λk r h=>GP h
 have κin:∀k,k<P.length->∃r,P[k]?=some r:=λk h=>⟨_,gG h⟩
 have ACz:(P.map (·.1)).length=P.length:=Ca ..;refine⟨tag,λt i=>t=w/\∃c K,(W w)[i]?=some (c,K)/\c.fine/\(AN AH w i).1=16/\(K≠[]\/c.res≠none),?_,?_,?_,?_,?_,?_⟩
 .intro t i c ht h hfi hwr hr;by_cases EW:t=w
  .subst EW;obtain⟨K,hK⟩:=at' t i c ht h;exact⟨rfl,c,K,hK,hfi,hwr,.inr hr⟩
  .cases er:c.res with
   |none=>exact absurd er hr
   |some r=>exact absurd hwr (jG t i c r.1 r.2.1 r.2.2 ht EW h hfi er).1
 .rintro t i ⟨rfl,c,K,h1,h2,h3,h4⟩;exact⟨hw,h3,by rw[Vz i h3];omega,c,back t i c K hw h1,h2⟩
 .rintro t i t' i' ⟨rfl,c,K,h1,h2,h3,h4⟩ ⟨rfl,c',K',h1',h2',h3',h4'⟩ e;refine⟨rfl,?_⟩;rw[Vz i h3,Vz i' h3']at e;rcases mk i c K h1 with⟨_,_,r,q,_⟩|⟨q,_⟩
  .rcases mk i' c' K' h1' with⟨_,_,r',q',_⟩|⟨q',_⟩
   .rcases Fq i i' with g|g|g
    .have:=κlt i i' c K r h1 q g;omega
    .exact g
    .have:=κlt i' i c' K' r' h1' q' g;omega
   .exact absurd ⟨h2',h3'⟩ q'
  .exact absurd ⟨h2,h3⟩ q
 .intro t i c p e v ht h hfi hwr hr;by_cases EW:t=w
  .subst EW;obtain⟨K,hK⟩:=at' t i c ht h;have hi:=(Be.1 hK).1
   have hv:v=Sm AH t (W t) i:=by
    rcases hown i c K hK with⟨q1,_⟩|⟨_,q2,_⟩|⟨_,_,_,q4⟩
    .exact absurd hfi q1
    .exact absurd q2 hwr
    .exact q4 p e v hr
   rw[oI i hwr,hv,ACy i (BP hi)];obtain⟨k,hk⟩:=gX (κ i);rw[hk];cases k with
   |zero=>exact .inl ⟨J,rfl⟩
   |succ k=>
    right
    have hkl:k<P.length:=by
     have h9:κ i<=P.length:=by
      have:=κle i (W t).length (BP hi)
      have e9:κ (W t).length=P.length:=by
       rw[hκ,<-hP];unfold Kh;rw[Ni (by rw[<-hZ,List.length_zipIdx];exact A9 _)]
      omega
     omega
    obtain⟨r,hr'⟩:=κin k hkl;obtain⟨j,d,K',g1,g2,g3⟩:=Y2 k r hr'
    have hji:j<i:=by
     rcases CR j i with q|q
     .exact q
     .have:=κle i j q;omega
    obtain⟨p',e',v',r1,r2⟩:=hL.calls hw hji (back t j d K' hw g1) h;rcases mk j d K' g1 with⟨m1,m2,r',m3,m4,_⟩|⟨_,q,_⟩
    .rw[g2]at m3;cases m3;refine⟨t,j,⟨rfl,d,K',g1,m1,m2,.inr (by rw[r1];simp)⟩,?_,?_⟩
     .rw[Vz j m2,g3];omega
     .rw[Bz (za k r hr'),m4]
    .rw[g2]at q;cases q
  .obtain⟨q1,u,q2,q3,q4,q5⟩:=jG t i c p e v ht EW h hfi hr;rw[oJ t i c u EW q2];have hval:=hf'.val _ _ _ q3;obtain⟨k,hk⟩:=gX (f' u.fb);have sW:=hf'.le _ _ _ q3;rw[hk]at hval sW|-;cases k with
   |zero=>exact .inl ⟨J,hval⟩
   |succ k=>
    right
    obtain⟨r,hr'⟩:=κin k (by rw[ACz]at sW;omega);obtain⟨j,d,K',g1,g2,g3⟩:=Y2 k r hr';have hah:=hf'.ahead _ _ _ q3 k r.1 (za k r hr') J;rcases mk j d K' g1 with⟨m1,m2,r',m3,m4,_,_,_,_,m5⟩|⟨_,q,_⟩
    .rw[g2]at m3;cases m3;have huN:u.e N<N:=by obtain⟨_,_,u',_,_,z1,_,z2⟩:=q3;omega
     refine⟨w,j,⟨rfl,d,K',g1,m1,m2,?_⟩,?_,?_⟩
     .by_cases hKe:K'=[]
      .right;intro hne;have:=m5 hKe hne;omega
      .exact .inl hKe
     .rw[Vz j m2,g3];omega
     .rw[hval,Bz (za k r hr'),m4]
    .rw[g2]at q;cases q
 .rintro t i t' i' c d p e v ht h hfi hr ⟨rfl,d',K',h1',h2',h3',h4'⟩ hd hlt;have:=back t' i' d' K' hw h1';rw[hd]at this;cases this;rw[Vz i' h3'];rcases mk i' d K' h1' with⟨_,_,r',m3,m4,m5,_⟩|⟨q,_⟩
  .by_cases EW:t=t'
   .subst EW;have hii:=ACx i i' c d p e v h hd hr hlt;by_cases hwr:(AN AH t i).1=16
    .obtain⟨K,hK⟩:=at' t i c ht h;rw[Vz i hwr];rcases mk i c K hK with⟨_,_,r,q,_⟩|⟨q,_⟩
     .have:=κlt i i' c K r hK q hii;omega
     .exact absurd ⟨hfi,hwr⟩ q
    .rw[oI i hwr];have:=κle i i' (BP hii);omega
   .obtain⟨q1,u,q2,q3,q4,q5⟩:=jG t i c p e v ht EW h hfi hr;rw[oJ t i c u EW q2];rcases CR (κ i') (f' u.fb)with g|g
    .have:=hf'.ahead _ _ _ q3 (κ i') r'.1 (za _ _ (rowP i' d K' r' h1' m3)) g;omega
    .omega
  .exact absurd ⟨h2',h3'⟩ q
 .intro t i t' i' c d p e v ht ht' h hfi hr hd hfd hwr hrd hlt;cases er:d.res with
  |none=>exact absurd er hrd
  |some rr=>
   obtain⟨p',e',v'⟩:=rr;by_cases yI:t'=w
   .subst yI;rw[oI i' hwr];by_cases EW:t=t'
    .subst EW;have hii:=ACx i i' c d p e v h hd hr hlt;by_cases QI:(AN AH t i).1=16
     .obtain⟨K,hK⟩:=at' t i c ht h;rw[Vz i QI];rcases mk i c K hK with⟨_,_,r,q,_⟩|⟨q,_⟩
      .have:=κlt i i' c K r hK q hii;omega
      .exact absurd ⟨hfi,QI⟩ q
     .rw[oI i QI];have:=κle i i' (BP hii);omega
    .obtain⟨q1,u,q2,q3,q4,q5⟩:=jG t i c p e v ht EW h hfi hr;rw[oJ t i c u EW q2];rcases CR (κ i') (f' u.fb)with g|g
     .have sW:=hf'.le _ _ _ q3;rw[ACz]at sW;obtain⟨r,hr'⟩:=κin (κ i') J;obtain⟨j,d2,K',g1,g2,g3⟩:=Y2 _ r hr';have hah:=hf'.ahead _ _ _ q3 _ r.1 (za _ r hr') g;rcases mk j d2 K' g1 with⟨m1,m2,r',m3,m4,m5,_⟩|⟨_,q,_⟩
      .rw[g2]at m3;cases m3
       have hji:i'<j:=by
        rcases Fq i' j with k|k|k
        .exact k
        .subst k;exact absurd m2 hwr
        .have:=κlt j i' d2 K' r g1 g2 k;omega
       obtain⟨p2,e2,v2,r1,r2⟩:=hL.calls hw hji hd (back t' j d2 K' hw g1);have:=hL.GI hw hd r1;omega
      .rw[g2]at q;cases q
     .omega
   .obtain⟨q1',u',q2',q3',q4',q5'⟩:=jG t' i' d p' e' v' ht' yI hd hfd er;rw[oJ t' i' d u' yI q2']
    have behind:∀(j:tyN) (c2:GC) (K2:List Ch) (r2:WR×Bool) (p2:tyN) (e2 x2:tyI),(W w)[j]?=some (c2,K2)->LX AH N w ((c2,K2),j)=[r2]->c2.res=some (p2,e2,x2)->p2<d.p0->κ j<f' u'.fb:=λj c2 K2 r2 p2 e2 x2 g1 g2 g3 g4=>by
     rcases mk j c2 K2 g1 with⟨m1,m2,r',m3,m4,m5,m6,m7,_⟩|⟨_,q,_⟩
     .rw[g2]at m3;cases m3;have:=m7 p2 e2 x2 g3;exact hf'.behind _ _ _ q3' _ r2.1 (za _ _ (rowP j c2 K2 r2 g1 g2)) J
     .rw[g2]at q;cases q
    by_cases EW:t=w
    .subst EW;obtain⟨K,hK⟩:=at' t i c ht h;by_cases QI:(AN AH t i).1=16
     .rw[Vz i QI];rcases mk i c K hK with⟨_,_,r,q,_⟩|⟨q,_⟩
      .have:=behind i c K r p e v hK q hr hlt;omega
      .exact absurd ⟨hfi,QI⟩ q
     .rw[oI i QI];obtain⟨k,hk⟩:=gX (κ i);rw[hk];cases k with
      |zero=>omega
      |succ k=>
       have hi:=(Be.1 hK).1
       have hkl:k<P.length:=by
        have h9:=κle i (W t).length (BP hi)
        have e9:κ (W t).length=P.length:=by
         rw[hκ,<-hP];unfold Kh;rw[Ni (by rw[<-hZ,List.length_zipIdx];exact A9 _)]
        omega
       obtain⟨r,hr'⟩:=κin k hkl;obtain⟨j,d2,K',g1,g2,g3⟩:=Y2 k r hr'
       have hji:j<i:=by
        rcases CR j i with q|q
        .exact q
        .have:=κle i j q;omega
       obtain⟨p2,e2,v2,r1,r2⟩:=hL.calls hw hji (back t j d2 K' hw g1) h;have h8:=hL.GI hw h hr;have:=behind j d2 K' r p2 e2 v2 g1 g2 r1 J;omega
    .obtain⟨q1,u,q2,q3,q4,q5⟩:=jG t i c p e v ht EW h hfi hr;rw[oJ t i c u EW q2];have:=hf'.mono _ _ _ _ _ _ q3 q3' J;omega
def FH (AGu AGv:Bool)(R:Op RD)(Wt:Int->Op RD)(c:CD):Op RD:=
 if c.1=16 then(if AGv=true then Wt c.2.2 else .ret (9,0))else if AGu=true then R else .ret (9,0)
variable {M:MD}{AH:List (List CD)}{H:List Au}{C:Nat->List GC}
theorem CC.reg(h:CC M AH H C){g:Nat->AD->Op Int}(hg:∀t a x,g t a≠ .ret x){T:Nat->CD->Op RD}(hP:∀t c,M.P t c=(T t c).sub (g t)){rg:Int->Prop}(hrg:∀i,rg i->0<=i/\i<32768)(hk:∀t c i,rg i->(T t c).keeps i):
  ∃W:Nat->List (GC×List Ch),(∀t,t<AH.length->(W t).map Prod.fst=C t)/\(∀t,AH.length<=t->W t=[])/\
   (∀(t i:tyN) (c:GC) (K:List Ch),(W t)[i]?=some (c,K)->t<AH.length/\(C t)[i]?=some c/\∃o' l',DE (g t) (T t (AN AH t i)) c.loc c.p0 c.items K o' l'/\∀p e v,c.res=some (p,e,v)->o'= .ret (e,v)/\c.out=Ag l')/\
   G1 g (IW AH C) H.length (λ_=>True) rg λt=>(W t).flatMap Prod.snd:=by
 have hW:∀t,∃W:List (GC×List Ch),(t<AH.length->W.map Prod.fst=C t)/\(AH.length<=t->W=[])/\(∀(i:tyN) (c:GC) (K:List Ch),W[i]?=some (c,K)->t<AH.length/\(C t)[i]?=some c/\∃o' l',DE (g t) (T t (AN AH t i)) c.loc c.p0 c.items K o' l'/\∀p e v,c.res=some (p,e,v)->o'= .ret (e,v)/\c.out=Ag l')/\Bk (g t) rg H.length 0 (λ_=>0) (W.flatMap Prod.snd):=λt=>by
  rcases CR t AH.length with ht|ht
  .obtain⟨W,w1,w2,w3⟩:=h.uses ht (hg t) (hP t);refine⟨W,λ_=>w1,λq=>J,λi c K hm=>⟨ht,by rw[<-w1,BY,hm];rfl,w2 i c K hm⟩,?_⟩;have:=w3 rg (λ_=>true) hrg λc=>⟨λi hi=>hk t c i hi,allT _⟩
   rwa[mU.2 λ_ _=>rfl]at this
  .exact⟨[],λq=>J,λ_=>rfl,λi c K hm=>by simp at hm,trivial⟩
 refine⟨λt=>Classical.choose (hW t),λt=>(Cg (hW t)).1,λt=>(Cg (hW t)).2.1,λt=>(Cg (hW t)).2.2.1,λt=>(Cg (hW t)).2.2.2,λt u hu a b e x hm=>?_,λt a b e x hA _=>?_⟩
 .obtain⟨⟨c,K⟩,hz,dm⟩:=FZ.1 hu;obtain⟨i,hi,ei⟩:=Dj hz;obtain⟨ht,hc,o',l',d,_⟩:=(Cg (hW t)).2.2.1 i c K (by rw[gG hi,ei]);exact⟨i,ht,c,hc,d.acc.2 ⟨u,dm,hm⟩⟩
 .obtain⟨i,ht,c,hc,hm⟩:=hA;have w1:=(Cg (hW t)).1 ht;rw[<-w1,BY]at hc;cases e:(Classical.choose (hW t))[i]? with
  |none=>rw[e]at hc;cases hc
  |some z=>
   rw[e]at hc;obtain⟨c',K⟩:=z;cases hc
   obtain⟨_,_,o',l',d,_⟩:=(Cg (hW t)).2.2.1 i c' K e;obtain⟨u,dm,hu⟩:=d.acc.1 hm;exact⟨u,FZ.2 ⟨_,BI e,dm⟩,hu⟩
 where allT {α:Type} {on:AD->Prop}:∀(o:Op α),o.all λa=>true=false->on a
 | .ret _=>trivial
 | .ask a k=>⟨λe=>(by cases e),λx=>allT (k x)⟩
 | .get _ k=>λx=>allT (k x)
 | .set _ _ k=>allT k
 | .note _ k=>allT k
 | .live k=>λb=>allT (k b)
theorem LU{C:Nat->List GC}(hA:Sx M AH C)(ht:t<AH.length){c:GC}(hc:(C t)[i]?=some c){g:AD->Op Int}{T:CD->Op RD}(hP:∀c,M.P t c=(T c).sub g){v:RD}(hT:T (AN AH t i)= .ret v)(hv:v.1≠0){K:List Ch}{o':Op RD}{l':tyL}(d:DE g (T (AN AH t i)) c.loc c.p0 c.items K o' l')(hr:∀p e v,c.res=some (p,e,v)->o'= .ret (e,v)):¬c.fine/\K=[]:=by
 rw[hT]at d;obtain⟨_,h2,h3,_⟩:=d.BV;refine⟨λhf=>?_,h2⟩;cases er:c.res with
 |none=>
  obtain⟨l0,L,l,a,k,hp⟩:=hA t ht i c hc er;rw[hP,hT]at hp;have hp':Path (.ret v:Op RD) l0 L (.ask a k) l:=hp;cases hp'
 |some r=>
  obtain⟨p,e,x⟩:=r;have:=hr p e x er;rw[h3]at this;have e2:=Op.ret.inj this;have:=hf p e x er;rw[e2]at hv;exact hv this
theorem GM(h:CC M AH H C)(ht:t<AH.length){c:GC}(hc:(C t)[i]?=some c){g:AD->Op Int}{a:AD}{k:Int->Op RD}{φ:Int->Int}{K:List Ch}{o':Op RD}{l':tyL}(d:DE g (.ask a k) c.loc c.p0 c.items K o' l')(hr:∀p e v,c.res=some (p,e,v)->o'= .ret (e,v))
  (hk:∀x,(∃v,k x= .ret v/\v.1=0/\v.2=φ x)\/∃i y v,k x= .set i y (.ret v)/\v.1=0/\v.2=φ x) (h16:a.1≠1↔(AN AH t i).1=16) (hv:a.1≠1->a.2.2=(AN AH t i).2.2) (hφ:a.1=1->∀x,φ x=x):c.fine/\JZ AH H.length t i c K/\∀u,u∈K->u.a=a/\u.l=c.loc/\u.fb<=u.e H.length:=by
 have hok:=h.call t ht i c hc;have hp0:=h.cZ ht hc
 have KK:∀u:Ch,u.lo=c.p0->u.its=c.items->c.p0<=u.fb/\u.fb<=AM c.p0 c.items:=λu e1 e2=>by
  have hs:=hok.seq;refine⟨by have:=ss u (by rw[e1,e2];exact hs);omega,?_⟩;unfold Ch.fb;rw[e1,e2];cases hi:c.items with
  |nil=>exact A9 _
  |cons it L=>
   rw[hi]at hs;cases it with
   |note q p=>exact Seq.A7 (L:=L) hs.2
   |acc a b e x=>exact DB (BP hs.2.1) (Seq.A7 (L:=L) hs.2.2)
 have htop:=hok.top
 have Qf:(∀v,o'≠ .ret v)->c.res=none:=λq=>by
  cases er:c.res with
  |none=>rfl
  |some r=>exact absurd (hr r.1 r.2.1 r.2.2 er) (q _)
 rcases d.Ba with⟨q1,q2,q3⟩|⟨o1,q1,q2,q3,q4,q5⟩|⟨L1,L2,K2,l1,x,q1,q2,q3,q4⟩
 .have er:=Qf q3;exact⟨λp e v q=>(by rw[er]at q;cases q),.inl ⟨q2,er⟩,λu hu=>(by rw[q2]at hu;cases hu)⟩
 .have er:=Qf q5;have hb:=KK ⟨a,c.p0,c.items,c.loc,l',none⟩ rfl rfl;refine⟨λp e v q=>(by rw[er]at q;cases q),.inr ⟨_,q1,hb.1,h16,hv,λp e v q=>(by rw[er]at q;cases q)⟩,λu hu=>?_⟩;rw[q1,Bq]at hu;subst hu;exact⟨rfl,rfl,DB hb.2 htop⟩
 .have fin:K2=[]/\L2=[]/\∀v,o'= .ret v->v.1=0/\v.2=φ x:=by
   rcases hk x with⟨v,e1,e2,e3⟩|⟨j,y,v,e1,e2,e3⟩
   .rw[e1]at q4;obtain⟨g1,g2,g3,_⟩:=q4.BV;exact⟨g2,g1,λv' e=>by rw[g3]at e;have:=Op.ret.inj e;subst this;exact⟨e2,e3⟩⟩
   .rw[e1]at q4;rcases q4.G7 with⟨g1,g2,g3⟩|g
    .exact⟨g2,g1,λv' e=>absurd e (g3 v')⟩
    .obtain⟨g1,g2,g3,_⟩:=g.BV;exact⟨g2,g1,λv' e=>by rw[g3]at e;have:=Op.ret.inj e;subst this;exact⟨e2,e3⟩⟩
  obtain⟨f1,f2,f3⟩:=fin;subst f1 f2;rw[Jc]at q2;subst q2;have hb:=KK ⟨a,c.p0,c.items,c.loc,l1,some x⟩ rfl rfl;refine⟨λp e v q=>(f3 _ (hr p e v q)).1,.inr ⟨_,q1,hb.1,h16,hv,λp e v q=>⟨(h.GI ht hc q).2,(hok.res p e v q).1,x,rfl,λe1=>?_⟩⟩,λu hu=>?_⟩
  .exact(f3 _ (hr p e v q)).2.trans (hφ e1 x)
  .rw[q1,Bq]at hu;subst hu;exact⟨rfl,rfl,hb.2⟩
theorem CC.uz(h:CC M AH H C){g:Nat->AD->Op Int}{cells rg:Int->Prop}{U:Nat->List Ch}(hU:G1 g (IW AH C) H.length cells rg U){t':tyN}{f f':AD->Op Int}(hf:∀a,CA (f a))(hf':∀a,CA (f' a))(e1:∀u,u∈U t->g t u.a=f u.a)(e2:∀u,u∈U t'->g t' u.a=f' u.a){b e e':tyN}{x x':tyI}(h1:B6 H.length (U t) b e x)(h2:B6 H.length (U t') b e' x'):t=t':=by
 have key:∀{t:tyN} {f:AD->Op Int},(∀a,CA (f a))->(∀u,u∈U t->g t u.a=f u.a)->∀{e:tyN} {x:tyI},B6 H.length (U t) b e x->∃a e x,IW AH C t a b e x:=λ{t f} hf e1 {e x} ⟨u,u1,u2,u3,u4,u5⟩=>by
  have hu:=(hU.uses t).fn e1;obtain⟨g1,_⟩:=hu.order hf;obtain⟨_,_,o,hp,_⟩:=hu.mem u u1;obtain⟨a,e9,x9,hm⟩:=XL hf hp ((g1 u u1).2.2.2 x u4);rw[u2]at hm;exact⟨a,e9,x9,hU.inl t u u1 _ _ _ _ hm⟩
 obtain⟨a,e9,x9,q⟩:=key hf e1 h1;obtain⟨a',e9',x9',q'⟩:=key hf' e2 h2;exact IW.uni h q q'
end
end Go.Proofs.YtpodgcpkccpnfaaGreat
