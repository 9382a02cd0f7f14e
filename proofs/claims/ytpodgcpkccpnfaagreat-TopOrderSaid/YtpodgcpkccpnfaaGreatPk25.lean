import Derived.Test.YtpodgcpkccpnfaaGreatPk07
import Derived.Test.YtpodgcpkccpnfaaGreatPk24
set_option linter.unusedVariables false
set_option linter.unusedSimpArgs false
set_option maxRecDepth 20000
set_option maxHeartbeats 40000000
namespace Go.Proofs.YtpodgcpkccpnfaaGreat
variable{b lo top v:Int}{H:List Au}{l:List C6}{M:MD}{B d g i j n t:Nat}{s:TS}{S:WD}{W w:World}
section
open Go.RowKit
structure CallW {α:Type}(g:AD->Op Int)(T:CD->Op α)(cs:List CD)(N:tyN)(W:List (GC×List Ch)):Prop where
 dec:∀(i:tyN) (c:GC) (K:List Ch),W[i]?=some (c,K)->∃o' l',DE g (T (cs.getD i (0,0,0))) c.loc c.p0 c.items K o' l'/\∀p e v,c.res=some (p,e,v)->AM c.p0 c.items<p/\p<N
 seq:∀(i:tyN) (c:GC) (K:List Ch),W[i]?=some (c,K)->Seq c.p0 c.items/\AM c.p0 c.items<=N/\c.p0<N
 next:∀(i j:tyN) (c d:GC) (K L:List Ch),i<j->W[i]?=some (c,K)->W[j]?=some (d,L)->∃p e v,c.res=some (p,e,v)/\p<d.p0
variable {M:MD}{AH:List (List CD)}{H:List Au}{C:Nat->List GC}
theorem CC.cZ(h:CC M AH H C)(ht:t<AH.length){c:GC}(hc:(C t)[i]?=some c):c.p0<H.length:=by
 obtain⟨now,q⟩:=(h.call t ht i c hc).aO;exact(Be.1 q).1
theorem CC.uses(h:CC M AH H C)(ht:t<AH.length){g:AD->Op Int}(hg:∀a x,g a≠ .ret x){T:CD->Op RD}(hP:∀c,M.P t c=(T c).sub g):
  ∃W:List (GC×List Ch),W.map Prod.fst=C t/\(∀(i:tyN) (c:GC) (K:List Ch),W[i]?=some (c,K)->∃o' l',DE g (T (AN AH t i)) c.loc c.p0 c.items K o' l'/\∀p e v,c.res=some (p,e,v)->o'= .ret (e,v)/\c.out=Ag l')/\
   ∀(rg:Int->Prop) (on:AD->Bool),(∀i,rg i->0<=i/\i<32768)->(∀c,(∀i,rg i->(T c).keeps i)/\(T c).all λa=>on a=false->∀i,rg i->(g a).keeps i)->Bk g rg H.length 0 (λ_=>0) ((W.flatMap Prod.snd).filter λu=>on u.a):=by
 have key:∀(L:List GC) (i:tyN),(∀(j:tyN) (c:GC),L[j]?=some c->(C t)[i+j]?=some c)->
   ∃W:List (GC×List Ch),W.map Prod.fst=L/\(∀(j:tyN) (c:GC) (K:List Ch),W[j]?=some (c,K)->∃o' l',DE g (T (AN AH t (i+j))) c.loc c.p0 c.items K o' l'/\∀p e v,c.res=some (p,e,v)->o'= .ret (e,v)/\c.out=Ag l')/\
    ∀(rg:Int->Prop) (on:AD->Bool),(∀i,rg i->0<=i/\i<32768)->(∀c,(∀i,rg i->(T c).keeps i)/\(T c).all λa=>on a=false->∀i,rg i->(g a).keeps i)->∀(lo:tyN) (σ:Int->Int),(∀c,L[0]?=some c->lo<=c.p0/\∀i,rg i->Ac c.loc i=σ i)->Bk g rg H.length lo σ ((W.flatMap Prod.snd).filter λu=>on u.a):=λL=>by
  induction L with
  |nil=>intro i _;exact⟨[],rfl,λj c K hm=>by simp at hm,λrg on _ _ lo σ _=>trivial⟩
  |cons c L ih=>
   intro i hL;have hc:(C t)[i]?=some c:=hL 0 c rfl;have hok:=h.call t ht i c hc;obtain⟨o,l,hp,hr⟩:=hok.path;rw[hP]at hp;obtain⟨K,o',l',d,hd⟩:=bh hg _ hp c.p0
   obtain⟨W,w1,w2,w3⟩:=ih (i+1) λj d hj=>by
    have:=hL (j+1) d (Cw hj);rwa[show i+(j+1)=i+1+j by omega]at this
   refine⟨(c,K)::W,by rw[Gf,w1],λj c' K' hm=>?_,λrg on hrg hT lo σ h0=>?_⟩
   .cases j with
    |zero=>
     have:(c,K)=(c',K'):=by simpa using hm
     cases this
     refine⟨o',l',d,λp e v hres=>?_⟩;obtain⟨q1,q2⟩:=hr p e v hres;obtain⟨q3,q4⟩:=hd (e,v) q1;exact⟨q3,by rw[q4];exact q2⟩
    |succ j=>
     obtain⟨o2,l2,q1,q2⟩:=w2 j c' K' (Cw hm);exact⟨o2,l2,by rw[show i+(j+1)=i+1+j by omega];exact q1,q2⟩
   .obtain⟨t1,t2⟩:=hT (AN AH t i);obtain⟨g1,g2,g3⟩:=d.uses hok.seq hok.top hrg t1 t2;obtain⟨z1,z2⟩:=h0 c rfl;show Bk g rg H.length lo σ ((K++W.flatMap Prod.snd).filter _);rw[IV]
    have hnext:∀c',L[0]?=some c'->∃p e v,c.res=some (p,e,v)/\p<c'.p0/\c'.loc=c.out:=λc' hc'=>by
     have:=hL 1 c' (Cw hc');obtain⟨d',p,e,v,r1,r2,r3,r4⟩:=h.next t ht i c' this;rw[hc]at r1;cases r1;exact⟨p,e,v,r2,r3,r4⟩
    refine Bk.append ((g1.congr z2).low z1) (λhne=>?_) ?_
    .have hL0:∃c',L[0]?=some c':=by
      cases L with
      |nil=>cases W with
       |nil=>exact absurd rfl hne
       |cons a b=>cases w1
      |cons c' L=>exact⟨c',rfl⟩
     obtain⟨c',hc'⟩:=hL0;obtain⟨p,e,v,r1,_⟩:=hnext c' hc';have ho:=(hd (e,v) (hr p e v r1).1).1;exact λw hw=>d.done ho w (Db.1 hw).1
    .refine w3 rg on hrg hT _ _ λc' hc'=>?_
     obtain⟨p,e,v,r1,r2,r3⟩:=hnext c' hc';obtain⟨q1,q2⟩:=hr p e v r1;obtain⟨q3,q4⟩:=hd (e,v) q1;have hlt:=(hok.res p e v r1).1;refine⟨?_,λj hj=>?_⟩
     .have hle:cM lo (K.filter λu=>on u.a)<=AM c.p0 c.items:=by
       cases e2:K.filter λu=>on u.a with
       |nil=>
        have:=Seq.A7 hok.seq;show lo<=_;omega
       |cons a b=>rw[e2]at g3;exact g3
      omega
     .rw[r3,q2,F7 l (hrg j hj).1,<-q4,g2 j hj];exact Ij _ z2 j hj
 obtain⟨W,w1,w2,w3⟩:=key (C t) 0 λj c hj=>by rw[Dw];exact hj
 refine⟨W,w1,λi c K hm=>by have:=w2 i c K hm;rwa[Dw]at this,λrg on hrg hT=>w3 rg on hrg hT 0 _ λc hc=>⟨DV _,λi hi=>?_⟩⟩;rw[h.AAv t ht c hc];rw[Uh];split
 .rfl
 .rfl
def IW (AH:List (List CD))(C:Nat->List GC)(t:tyN)(a:AD)(b e:tyN)(x:tyI):Prop:= ∃i,IH AH C t i (.acc a b e x)
theorem IW.uni(h:CC M AH H C){t':tyN}{a a':AD}{b e e':tyN}{x x':tyI}(h1:IW AH C t a b e x)(h2:IW AH C t' a' b e' x'):t=t':=by
 obtain⟨i,h1⟩:=h1;obtain⟨i',h2⟩:=h2;obtain⟨⟨n1,q1⟩,_⟩:=h.acc h1;obtain⟨⟨n2,q2⟩,_⟩:=h.acc h2;rw[q1]at q2;cases q2;rfl
theorem CC.Oe(h:CC M AH H C)(hF:EE M){c:tyI}(hk:(M.fresh c).kind=1)(ht:(M.fresh c).top=top):GH (IW AH C) H.length c top:=by
 refine⟨λt b e x ⟨i,hi⟩ he=>?_,λws hs hw hc t b e x ⟨i,hi⟩ he=>?_⟩
 .obtain⟨_,hk1,_,_,h1⟩:=h.acc hi;have:=Told.small hF (h1 he).2 hk1;rw[ht]at this;exact this
 .have hcl:∀v,0<=v/\v<=top->AZ v (M.fresh c).top=v:=λv hv=>by
   have:=hF.top c;exact Bu v _ hv.1 (by rw[ht];exact hv.2) this.2
  have hbe:=(h.acc hi).2.2.1;refine⟨λk hkl h1 h2=>?_,λw hw' e'=>?_⟩
  .have hq:=h.quiet hi he hk λt' i' v b' e' x' hi'=>by
    have hm:=hc t' v b' e' x' ⟨i',hi'⟩;obtain⟨j,hj,ej⟩:=Dj hm;have hj':ws[j]?=some ⟨v,b',e'⟩:=by rw[gG hj,ej]
    rcases CR j k with g|g
    .exact .inl (h1 j _ g hj')
    .exact .inr (h2 j _ g hj')
   show x=_;rw[hq];cases k with
   |zero=>
    rw[h.qc (p:=b) J λt' i' v' b' e' x' hi'=>?_]
    .exact hF.val c
    .obtain⟨j,hj,ej⟩:=Dj (hc t' v' b' e' x' ⟨i',hi'⟩);have h3:e<b':=h2 j _ (DV _) (show ws[j]?=some ⟨v',b',e'⟩ by rw[gG hj,ej]);have hb':=(h.acc hi').2.2.1;omega
   |succ k=>
    have hkl':k<ws.length:=J;have hw0:ws[k]?=some ws[k]:=gG hkl';obtain⟨hv,t0,x0,i0,hi0⟩:=hw _ (KD hkl');have hlt:(ws[k]).e<b:=h1 k _ (I7 _) hw0;rw[h.wrote hi0 hlt J λt' i' v' b' e' x' hi'=>?_]
    .rw[hcl _ hv,Bz hw0]
    .obtain⟨j,hj,ej⟩:=Dj (hc t' v' b' e' x' ⟨i',hi'⟩);have hj':ws[j]?=some ⟨v',b',e'⟩:=by rw[gG hj,ej]
     rcases Fq j k with g|g|g
     .have:=hs j k _ _ g hj' hw0;have hb':=(h.acc hi0).2.2.1
      left;dsimp only at this;omega
     .subst g;rw[hj']at hw0;have:=El hw0
      left;rw[<-this];exact A9 _
     .have h3:e<b':=h2 j _ J hj';have hb':=(h.acc hi').2.2.1
      right;omega
  .obtain⟨_,t0,x0,i0,hi0⟩:=hw w hw';obtain⟨⟨n1,q1⟩,_⟩:=h.acc hi0;obtain⟨_,_,_,_,h5⟩:=h.acc hi;obtain⟨⟨n2,q2⟩,_⟩:=h5 he;rw[e',q2]at q1;cases q1
end
section
open Go.RowKit
def What.lead:What->Bool
 | .call=>true
 | .fin _ _=>true
 |_=>false
def Si (H:List Au):Prop:= ∀(p q:tyN) (A B:Au),p<q->H[p]?=some A->H[q]?=some B->B.w.lead=true->A.now<B.now
structure F3 (S:WD)(H:List Au):Prop where
 now:∀A,A∈H->A.now<=S.now
 O7:Si H
theorem F3.app{S':WD}{X:List Au}(h:F3 S H)(hx:∀A,A∈X->A.now=S.now+1)(hl:∀A,A∈X.tail->A.w.lead=false)(hs:X≠[]->S.now+1<=S'.now)(hs0:S.now<=S'.now):F3 S' (H++X):=by
 refine⟨λA hA=>?_,λp q A B hpq hA hB hw=>?_⟩
 .rcases Cs.1 hA with hA|hA
  .have:=h.now A hA;omega
  .have:=hs (List.ne_nil_of_mem hA);have:=hx A hA;omega
 .rcases CR q H.length with hq|hq
  .exact h.O7 p q A B hpq (CZ hA J) (CZ hB hq) hw
  .rw[Gb hq]at hB;have h1:=hx B (BI hB);rcases CR p H.length with hp|hp
   .have:=h.now A (BI (CZ hA hp));omega
   .exfalso;obtain⟨k,hk⟩:∃k,q-H.length=k+1:=⟨q-H.length-1,J⟩;rw[hk]at hB;cases X with
    |nil=>simp at hB
    |cons a X=>
     rw[Kk]at hB;have:=hl B (BI hB);rw[hw]at this;cases this
theorem My(M:MD)(t now:tyN)(th:N8):∀A,A∈Eo M t now th->A.now=now/\A.w.lead=false:=λA hA=>by
 unfold Eo at hA;rcases Cs.1 hA with hA|hA
 .obtain⟨k,_,rfl⟩:=Cd.1 hA;exact⟨rfl,rfl⟩
 .cases e:(Co M t th).1 with
  |none=>rw[e]at hA;cases hA
  |some v=>rw[e]at hA;rw[Bq]at hA;subst hA;exact⟨rfl,rfl⟩
theorem Oj(M:MD)(t:tyN)(S:WD):∀A,A∈Kj M t S->A.now=S.now/\A.w.lead=false:=λA hA=>by
 unfold Kj at hA;split at hA
 .rw[Bq]at hA;subst hA;exact⟨rfl,rfl⟩
 .cases hA
theorem RO(M:MD)(t:tyN)(S:WD):(Cb M t S).now=S.now:=by unfold Cb;split<;>rfl
theorem eR(M:MD)(t:tyN)(S:WD):(NB M t S).now=S.now:=by
 unfold NB;split
 .rw[RO];rfl
 .rfl
theorem F3.pick(h:F3 S H)(t:tyN):F3 (EQ M t S) (H++F2 M t S)/\(EQ M t S).now<=S.now+1:=by
 unfold EQ F2;split
 .rw[Jc];exact⟨h,N9 _⟩
 split
 .exact⟨h.app (λA hA=>by cases hA) (λA hA=>by cases hA) (λe=>absurd rfl e) (N9 _),A9 _⟩
 split
 .split
  .exact⟨h.app (λA hA=>by cases hA) (λA hA=>by cases hA) (λe=>absurd rfl e) (N9 _),A9 _⟩
  .have hn:=eR M t S.tick
   have hall:∀A,A∈Eo M t (S.now+1) (S.AU t)++(if((DX M t S.tick).AU t).st=1 then Kj M t (DX M t S.tick)else[])->A.now=S.now+1/\A.w.lead=false:=λA hA=>by
    rcases Cs.1 hA with hA|hA
    .exact My M t _ _ A hA
    .split at hA
     .exact Oj M t _ A hA
     .cases hA
   refine⟨h.app (λA hA=>?_) (λA hA=>(hall A hA).2) (λ_=>Jq hn.symm) (by rw[hn];exact N9 _),Jq hn⟩;rcases BJ.1 hA with rfl|hA
   .rfl
   .exact(hall A hA).1
 split
 .have hn:=RO M t S.tick;exact⟨h.app (λA hA=>(Oj M t _ A hA).1) (λA hA=>(Oj M t _ A (List.mem_of_mem_tail hA)).2) (λ_=>Jq hn.symm) (by rw[hn];exact N9 _),Jq hn⟩
 .refine⟨h.app (λA hA=>?_) (λA hA=>(My M t _ _ A hA).2) (λ_=>A9 _) (N9 _),A9 _⟩;rcases BJ.1 hA with rfl|hA
  .rfl
  .exact(My M t _ _ A hA).1
theorem F3.times(h:F3 S H)(t:tyN):∀k,F3 (Bv M t k S).1 (H++LA M t k S)/\(Bv M t k S).1.now<=S.now+k
 |0=>⟨by show F3 S (H++[]);rw[Jc];exact h,A9 _⟩
 |k+1=>by
  obtain⟨h1,h2⟩:=h.times t k;obtain⟨h3,h4⟩:=h1.pick (M:=M) t;refine⟨?_,DB h4 J⟩;show F3 (EQ M t (Bv M t k S).1) (H++(LA M t k S++F2 M t (Bv M t k S).1));rw[<-Jt];exact h3
def PG (p:BL):Nat:=if p.halt=true then 0 else p.times.toNat
theorem F3.step(h:F3 S H)(p:BL):F3 (IJ M p S).1 (H++Rv M p S)/\(IJ M p S).1.now<=S.now+PG p:=by
 unfold IJ Rv PG;split
 .have hn:(ID p.thread.toNat S).now=S.now:=by unfold ID;split<;>rfl
  refine⟨⟨λA hA=>?_,λa q A B hpq hA hB hw=>?_⟩,Jq hn⟩
  .rw[hn];rcases Cs.1 hA with hA|hA
   .exact h.now A hA
   .unfold Pp at hA;split at hA
    .cases hA
    .rw[Bq]at hA;subst hA;exact A9 _
  .rcases CR q H.length with hq|hq
   .exact h.O7 a q A B hpq (CZ hA J) (CZ hB hq) hw
   .rw[Gb hq]at hB;have hm:=BI hB;unfold Pp at hm;split at hm
    .cases hm
    .rw[Bq]at hm;subst hm;cases hw
 .exact h.times _ _
theorem F3.run(h:F3 S [])(ps:List BL):∀k,F3 (B7 M ps k S).1 (lQ M ps k S)/\(B7 M ps k S).1.now<=S.now+((List.range k).map λj=>PG (ps.getD j ⟨0,0,true⟩)).sum
 |0=>⟨h,A9 _⟩
 |k+1=>by
  obtain⟨h1,h2⟩:=h.run ps k;obtain⟨h3,h4⟩:=h1.step (M:=M) (ps.getD k ⟨0,0,true⟩);refine⟨h3,DB h4 ?_⟩;rw[MQ,Gu,List.sum_append];simp only[Gf,jx,List.sum_cons,List.sum_nil];omega
def Sx (M:MD)(AH:List (List CD))(C:Nat->List GC):Prop:= ∀t,t<AH.length->∀i c,(C t)[i]?=some c->c.res=none->∃l0 L l a k,Path (M.P t (AN AH t i)) l0 L (.ask a k) l
theorem GInv.asks{AH:List (List CD)}{C:Nat->List GC}(h:GInv M AH S H)(hL:CC M AH H C):Sx M AH C:=λt ht i c hc hr=>by
 obtain⟨cs,cur,ph,h1,h2⟩:=h.ex;obtain⟨hT,hnm⟩:=h1 t (by rw[h.n];exact ht);obtain⟨now,hat⟩:=(hL.call t ht i c hc).aO;rcases hT.Rm c.p0 _ hat rfl with q|⟨d,q1,q2⟩
 .cases q
 dsimp only at q1 q2;rcases CR i (cs t).length with hlt|hge
 .exfalso;rw[IC hlt]at q1;obtain⟨p,e,v,l,g1,g2,g3,g4,n2,g5⟩:=((hT.fin i d q1).1).path;obtain⟨_,q3⟩:=hL.Rm p _ g5;rcases q3 with q3|⟨c',q3,q4⟩
  .cases q3
  .dsimp only at q3 q4;rw[hc]at q3;cases q3;rw[hr]at q4;cases q4
 .have hlt:=(Be.1 q1).1;rw[Gb hge]at q1;have hs:=hT.stat;cases e:cur t with
  |none=>rw[e]at q1;simp at q1
  |some d'=>
   rw[e]at q1 hlt;have hi:i=(cs t).length:=by simp at hlt;omega
   subst hi;cases hp:ph t with
   |mid o l=>exact absurd hp (hnm o l)
   |idle=>rw[hp]at hs;rw[hs.1]at e;cases e
   |asked a k l=>
    rw[hp]at hs;obtain⟨g1,g2,c',g3,g4,_⟩:=hs;exact⟨_,_,_,_,_,g4.path⟩
   |begun a k l b=>
    rw[hp]at hs;obtain⟨g1,g2,c',g3,g4,_⟩:=hs;exact⟨_,_,_,_,_,g4.path⟩
theorem gA(M:MD)(AH:List (List CD))(hn:AH.length<=8)(hm:∀c t,((M.fresh c).B1 t).on=false)(ps:List BL)(k:tyN):
  ∃H C,(B7 M ps k (Cv AH)).2=H.filterMap SX/\CC M AH H C/\Si H/\Sx M AH C/\∀A,A∈H->A.now<=((List.range k).map λj=>PG (ps.getD j ⟨0,0,true⟩)).sum:=by
 have G:=(GInv.start M AH hn hm).run ps k;obtain⟨C,hC⟩:=G.logs;obtain⟨h1,h2⟩:=F3.run (M:=M) (S:=Cv AH) ⟨λA hA=>by(cases hA),λp q A B _ hA=>by simp at hA⟩ ps k;exact⟨_,C,bY M ps _ k,hC,h1.O7,G.asks hC,λA hA=>DB (h1.now A hA) (by simpa[Cv]using h2)⟩
theorem ku(w:tyW)(a b:Obj):((w.alloc a).alloc b).heap[w.heap.size]?=some a/\((w.alloc a).alloc b).heap[w.heap.size+1]?=some b:=by
 have h1:(w.alloc a).heap.size=w.heap.size+1:=Az;have ha:=Ah w a;have hb:=Ah (w.alloc a) b;rw[h1]at hb;exact⟨(heap_alloc_old (w.alloc a) b (gE ha).1).trans ha,hb⟩
theorem KE(a b:C6)(w:tyW):Calls Tryz.prog 38 #[gM a,gM b] w λe w'=>e=BA (.bool (Bt a b))/\Up w w':=by
 have rV:Hid (Bt a b=((a.to != -1)&&decide (a.to<b.Ko))):=I rfl;generalize Bt a b=r at*;unfold gM;obtain⟨hx,hy⟩:=ku w (Y #[a.Ko,a.to,.bool a.wr,a.val,a.LD] 81) (Y #[b.Ko,b.to,.bool b.wr,b.val,b.LD] 81);have hu:Up w ((w.alloc (Y #[a.Ko,a.to,.bool a.wr,a.val,a.LD] 81)).alloc (Y #[b.Ko,b.to,.bool b.wr,b.val,b.LD] 81)):=((AV w).alloc _).alloc _;have HU:=I hu;have x0:=cI hx 0;have x1:=cI hx 1;have y0:=cI hy 0;clear hx hy hu;obtain⟨af,at',aw,av,ath⟩:=a;obtain⟨bf,bt,bw,bv,bth⟩:=b;dsimp only at*;by_cases h1:at'= -1
 .have h1b:(at' != -1)=false:=by rw[h1];rfl
  have HN:Hid (r=false):=I (by rw[rV,h1b];rfl);clear rV h1;go_enter Tryz.func38,Tryz.ntmps38
  go_wp2
  go_ret;exact⟨by rw[HN];rfl,HU⟩
 .have h1b:(at' != -1)=true:=by rw[Ol];exact h1
  have HN:Hid (r=decide (at'<bf)):=I (by rw[rV,h1b];rfl);clear rV h1;go_enter Tryz.func38,Tryz.ntmps38
  go_wp2
  go_ret;exact⟨by rw[HN];rfl,HU⟩
def lastOf (l:List C6)(t:tyI):Nat->Option C6
 |0=>none
 |j+1=>if(l.getD j Ax).LD=t then some (l.getD j Ax)else lastOf l t j
def Fy (l:List C6)(j:tyN):Int:=if j=0 then 0 else(l.getD (j-1) Ax).Ko
def Mz (p:Option C6)(o:C6):Bool:=match p with|none=>true|some q=>Bt q o
def Jl (l:List C6)(j:tyN):Bool:= !decide ((l.getD j Ax).Ko<Fy l j)&& !(((l.getD j Ax).to != -1)&&decide ((l.getD j Ax).to<(l.getD j Ax).Ko))&&(decide (0<=(l.getD j Ax).LD)&&decide ((l.getD j Ax).LD<8))&&Mz (lastOf l (l.getD j Ax).LD j) (l.getD j Ax)
def LI (l:List C6):Bool:=(List.range l.length).all (Jl l)
theorem Tp(h:∀i,i<l.length->Jl l i=true):LI l=true:=by
 unfold LI;rw[Ts];intro i hi;exact h i (Dz.1 hi)
theorem ju(h:LI l=true):∀i,i<l.length->Jl l i=true:=by
 unfold LI at h;rw[Ts]at h;intro i hi;exact h i (Dz.2 hi)
theorem lL(hi:i<l.length)(h:Jl l i=false):LI l=false:=by
 cases hf:LI l
 .rfl
 .rw[ju hf i hi]at h;cases h
theorem Z8(h:Jl l j=true):Fy l j<=(l.getD j Ax).Ko/\((l.getD j Ax).to= -1\/(l.getD j Ax).Ko<=(l.getD j Ax).to)/\(0<=(l.getD j Ax).LD/\(l.getD j Ax).LD<8)/\Mz (lastOf l (l.getD j Ax).LD j) (l.getD j Ax)=true:=by
 unfold Jl at h;rw[Fh,Fh,Fh,Fh]at h;obtain⟨⟨⟨h1,h2⟩,h3,h4⟩,h5⟩:=h;refine⟨by simpa using h1,?_,⟨Il h3,Il h4⟩,h5⟩;by_cases ht:(l.getD j Ax).to= -1
 .exact .inl ht
 .right
  have hb:((l.getD j Ax).to != -1)=true:=by rw[Ol];exact ht
  rw[hb]at h2;simpa using h2
theorem RQ{l:List C6}:∀j,(∀i,i<j->Jl l i=true)->0<=Fy l j
 |0,_=>by simp[Fy]
 |j+1,h=>by
  have h1:=(Z8 (h j J)).1;have h2:=RQ j (λi hi=>h i J);unfold Fy;rw[AI J];show 0<=(l.getD j Ax).Ko;omega
def Mp (l:List Nat):List Value:=l.map λ(i:tyN)=>Value.int .i64 (i:tyI)
theorem Sp(l m:List Nat):Mp (l++m)=Mp l++Mp m:=by unfold Mp;rw[Gu]
def Xk (w:tyW)(B:tyN)(v:tyV)(l:List Nat):Prop:=w.ownsRow B 3 1 v l.length (Mp l)
def ON (l:List C6)(d i k:tyN):Bool:= !hasB d i&&(List.range k).all λq=>hasB d q|| !Bt (l.getD q Ax) (l.getD i Ax)
def Ul (l:List C6)(d i:tyN):Bool:=ON l d i l.length
def F4 (l:List C6)(d n:tyN):List Nat:=(List.range n).filter (Ul l d)
def Cx (l:List C6)(d:tyN):List Nat:=F4 l d l.length
theorem fv(l:List C6)(d i k:tyN):ON l d i (k+1)=(ON l d i k&&(hasB d k|| !Bt (l.getD k Ax) (l.getD i Ax))):=by
 unfold ON;rw[MQ,kV,Bool.and_assoc];simp
theorem ZR(l:List C6)(d n:tyN):F4 l d (n+1)=if Ul l d n then F4 l d n++[n]else F4 l d n:=by
 unfold F4;rw[MQ,IV];by_cases h:Ul l d n
 .simp[h]
 .simp[h]
theorem UE(l:List C6)(d n:tyN):(F4 l d n).length<=n:=by
 have:=List.length_filter_le (Ul l d) (List.range n);rw[Uq]at this;exact this
theorem tO:(Tryz.prog.info? 3).map (λi=>(i.zero,i.size,i.bytes))=some (some (.int .i64 0),1,8):=Ay
theorem aU{P:Program}{e:TypeId}{z:tyV}{s b:tyN}(h:(P.info? e).map (λi=>(i.zero,i.size,i.bytes))=some (some z,s,b)):∃i,P.info? e=some i/\i.zero=some z/\i.size=s/\i.bytes=b:=by
 cases hi:P.info? e with
 |none=>rw[hi]at h;cases h
 |some i=>
  rw[hi]at h;simp only[Option.map_some,Dt,bc]at h;exact⟨i,rfl,h.1,h.2.1,h.2.2⟩
theorem Nh{w':tyW}{e size:tyN}{v:tyV}{xs:List Value}(h:w.ownsRow B e size v n xs)(u:Up w w'):w'.ownsRow B e size v n xs:=by
 rcases h.2 with⟨hv,hn⟩|⟨g,cap,cur,hv,hg,hh,hr⟩
 .exact⟨h.1,.inl ⟨hv,hn⟩⟩
 .exact⟨h.1,.inr ⟨g,cap,cur,hv,hg,(u.block g (gE hh).1).trans hh,hr⟩⟩
theorem kB(l:List C6)(A:tyA)(c d:tyN)(w:tyW)(hL:l.length<=64)(hd:d<Nd)(hr:Gh w A l):
  Calls Tryz.prog 65 #[AR A l.length c,.int .u64 d] w λe w'=> ∃v,e=BA v/\Xk w' w.heap.size v (Cx l d)/\Up w w':=by
 obtain⟨i0,hi,hz0,hz1,hz2⟩:=aU tO;have HI:=I hi;have HZ0:=I hz0;have HZ1:=I hz1;have HZ2:=I hz2;have HR:=I hr;have hl2:(l.length:tyI)<=64:=J;have HC:=I (λi W (h:i<l.length)=>Re d i W hd J);have HMS:=I (fv l d);have HNS:=I (ZR l d);have zW:=I (λn=>UE l d n);have HM0:Hid (∀i,ON l d i 0= !hasB d i):=I (λi=>by unfold ON;simp);have oo:Hid (∀i,Ul l d i=ON l d i l.length):=I (λ_=>rfl);have ACt:=I hL;clear hi hz0 hz1 hz2 hr hL hd;go_enter Tryz.func65,Tryz.ntmps65;go_wp2_with fail
 go_loopw[5,6] (λu x wr=> ∃i:Nat,i<=l.length/\x=O i/\Hid (Xk wr w.heap.size u (F4 l d i))/\Hid (Up w wr)) (λ_ x _=>l.length-(intOf x).toNat)
 case atStart=>exact⟨0,J,rfl,I (C3 _ _ _ _),I (AV _)⟩
 case round=>
  obtain⟨i,hi,rfl,HO,HV⟩:=hrel;by_cases hlt:i<l.length
  .have hii:(i:tyI)<l.length:=J;have hi0:(0:tyI)<=i:=J;have HI1:=I hlt;have EK:=I HV.size;have M2:=I (HC i wr hlt);have HM1:=I (HM0 i);go_wp2_with fail;refine M2.mono ?_;rintro _ wz ⟨rfl,rfl⟩;go_wp2_with fail;rw[<-HM1]
   go_loopw[7,8] (λm y wq=> ∃k:Nat,k<=l.length/\y=O k/\m= .bool (ON l d i k)/\Hid (Up wz wq)) (λ_ y _=>l.length-(intOf y).toNat)
   case atStart=>exact⟨0,J,rfl,rfl,I (AV _)⟩
   case round=>
    obtain⟨k,hk,rfl,rfl,P1⟩:=hrel;by_cases hlk:k<l.length
    .have hki:(k:tyI)<l.length:=J;have hk0:(0:tyI)<=k:=J;have HS:=I (HMS i k);have Vm:=I (λW=>HC k W hlk);obtain⟨bi,Cn,eA,S8,i1,i2,i3,i4⟩:=HR.up (HV.trans P1) i HI1;obtain⟨bk,sU,eB,k0,k1,k2,k3,k4⟩:=HR.up (HV.trans P1) k hlk;subst eA;cases eB
     have Km:=I (λW=>KE (l.getD k Ax) (l.getD i Ax) W);generalize hm2:ON l d i (k+1)=m2 at*;have jF:=I hm2;clear hm2;generalize ON l d i k=m at*;generalize Bt (l.getD k Ax) (l.getD i Ax)=ah at*;generalize l.getD i Ax=p at*;generalize l.getD k Ax=q at*;generalize hasB d k=hb at*;obtain⟨PF,PT,PW,PV,PH⟩:=p;obtain⟨QF,QT,QW,QV,QH⟩:=q;unfold gM at Km;dsimp only at Km S8 i1 i2 i3 i4 k0 k1 k2 k3 k4;cases m
     .have HN:Hid (m2=false):=I (by rw[HS];rfl);clear HS S8 i1 i2 i3 i4 k0 k1 k2 k3 k4;go_wp2_with fail;go_quiet(fail)
      go_wp2
      go_roundw
      case rel=>exact⟨k+1,J,by go_num,by rw[jF,HN],I (below_drewN P1 _)⟩
      case measure=>simp[intOf];omega
     .cases hb
      .have HN:Hid (m2= !ah):=I (by rw[HS];rfl);have KP:Hid (∀w',Up wr w'->Up wr w'/\V w' bi (Cn+i*5) PF/\V w' bi (Cn+i*5+1) PT/\V w' bi (Cn+i*5+2) PW/\V w' bi (Cn+i*5+3) PV/\V w' bi (Cn+i*5+4) PH/\V w' bi (Cn+k*5) QF/\V w' bi (Cn+k*5+1) QT/\V w' bi (Cn+k*5+2) QW/\V w' bi (Cn+k*5+3) QV/\V w' bi (Cn+k*5+4) QH):=I (λw' u=>⟨u,(u.cell (AJ S8)).trans S8,(u.cell (AJ i1)).trans i1,(u.cell (AJ i2)).trans i2,(u.cell (AJ i3)).trans i3,(u.cell (AJ i4)).trans i4,(u.cell (AJ k0)).trans k0,(u.cell (AJ k1)).trans k1,(u.cell (AJ k2)).trans k2,(u.cell (AJ k3)).trans k3,(u.cell (AJ k4)).trans k4⟩);have zX:=I (λW (u:Up wr W)=>(Vm W).mono λe w' (h:_/\_)=>show _/\Up wr w' from⟨h.1,by rw[h.2];exact u⟩);have sV:=I (λW (u:Up wr W)=>(Km W).mono λe w' (h:_/\_)=>show _/\Up wr w' from⟨h.1,u.trans h.2⟩);clear HS S8 i1 i2 i3 i4 k0 k1 k2 k3 k4 Vm Km;go_wp2_with fail
       go_region_held3 (λw'=>Up wr w'/\V w' bi (Cn+i*5) PF/\V w' bi (Cn+i*5+1) PT/\V w' bi (Cn+i*5+2) PW/\V w' bi (Cn+i*5+3) PV/\V w' bi (Cn+i*5+4) PH/\V w' bi (Cn+k*5) QF/\V w' bi (Cn+k*5+1) QT/\V w' bi (Cn+k*5+2) QW/\V w' bi (Cn+k*5+3) QV/\V w' bi (Cn+k*5+4) QH)
        (first|exact KP.out _ (by assumption)|exact KP.out _ (AV _).drew)
        (first|(go_at_call 64;refine(zX _ (Wl (by assumption))).mono ?_;rintro e w' ⟨rfl,hb⟩)|(go_at_call 38;refine(sV _ (Wl (by assumption))).mono ?_;rintro e w' ⟨rfl,hb⟩))
       all_goals
        go_wp2
        go_roundw
        case rel=>exact⟨k+1,J,by go_num,by rw[jF,HN],I (P1.trans (by first|assumption|exact Wl (by assumption)))⟩
        case measure=>simp[intOf];omega
      .have HN:Hid (m2=true):=I (by rw[HS];rfl);clear HS S8 i1 i2 i3 i4 k0 k1 k2 k3 k4;go_wp2_with fail;go_quiet((go_at_call 64;exact Calls.quiet_of_same (Vm _)))
       go_wp2
       go_roundw
       case rel=>exact⟨k+1,J,by go_num,by rw[jF,HN],I (below_drewN P1 _)⟩
       case measure=>simp[intOf];omega
    .obtain rfl:k=l.length:=J;clear hlk;have HUQ:=I (HV.trans P1);have HOQ:=I (Nh HO P1);have zY:=I (HNS i);have o6:=I HUQ.size;rw[<-oo];cases hmb:Ul l d i
     .have oH:Hid (F4 l d (i+1)=F4 l d i):=I (by rw[zY,hmb];rfl);clear zY hmb
      go_wp2
      go_roundw
      case rel=>exact⟨i+1,J,by go_num,by rw[oH];exact HOQ,HUQ⟩
      case measure=>simp[intOf];omega
     .have oH:Hid (F4 l d (i+1)=F4 l d i++[i]):=I (by rw[zY,hmb];rfl);have ox:Hid (((F4 l d i).length+1)*8<=140737488355328):=I (by have:=zW.out i;omega);clear zY hmb;go_wp2_with(at_builtin;refine Ii (news:=[.int .i64 i]) rfl (.tmp 44) (.tmp 46) 25 rfl w.heap.size i0 () 1 8 Tryz.underlying25 HI HZ0 HZ1 HZ2 rfl AQ _ (F4 l d i).length (Mp (F4 l d i)) rfl HOQ rfl rfl (by simp[Value.oneCell']) AQ ox o6 ?_;intro v' w6 hown6 hg hbl)
      have OJ:Hid (Xk w6 w.heap.size v' (F4 l d (i+1))):=I (by
       rw[oH];unfold Xk;rw[Gx,Sp]
       exact hown6)
      have ME:=I (show Up w w6 from DL HUQ hbl);clear hown6 hg hbl
      go_wp2
      go_roundw
      case rel=>exact⟨i+1,J,by go_num,OJ,ME⟩
      case measure=>simp[intOf];omega
  .obtain rfl:i=l.length:=J;clear hlt
   go_wp2
   go_ret;exact⟨_,rfl,HO,HV⟩
abbrev St:=Nat×Int
def st0:St:=(0,0)
def Xm (s:St):List Value:=[.int .u64 (s.1:tyI),.int .i64 s.2]
def J3 (l:List St):List Value:=l.flatMap Xm
theorem Sj(l m:List St):J3 (l++m)=J3 l++J3 m:=by unfold J3;rw[Y8]
theorem iP(l:List St):∀k,k<l.length->∀j,j<2->(J3 l)[k*2+j]?=(Xm (l.getD k st0))[j]?:=by
 induction l with
 |nil=>intro k hk;simp at hk
 |cons a l ih=>
  intro k hk j hj;have e:J3 (a::l)=Xm a++J3 l:=rfl;have e5:(Xm a).length=2:=rfl;rw[e];cases k with
  |zero=>
   rw[RR,Dw,IC J];rfl
  |succ k=>
   rw[Gb J,e5,show(k+1)*2+j-2=k*2+j by omega];exact ih k (Cw hk) j hj
def M7 (l:List C6)(d k:tyN):Bool:=(List.range k).any λi=>(l.getD i Ax).to != -1&& !hasB d i
def Ry (l:List C6)(d:tyN):Bool:=M7 l d l.length
theorem aK(l:List C6)(d k:tyN):M7 l d (k+1)=(M7 l d k||((l.getD k Ax).to != -1&& !hasB d k)):=by
 unfold M7;rw[MQ,List.any_append];simp
def Hi (o:C6)(v:tyI):Bool:=o.wr||o.to== -1||o.val==v
def Hn (o:C6)(v:tyI):Int:=if o.wr then o.val else v
def child (l:List C6)(d:tyN)(v:tyI)(i:tyN):St:=(Dk d i,Hn (l.getD i Ax) v)
inductive Ow (l:List C6):Nat->Int->Prop
 |all (d:tyN) (v:tyI):Ry l d=false->Ow l d v
 |pick (d:tyN) (v:tyI) (i:tyN):i∈Cx l d->Hi (l.getD i Ax) v=true->Ow l (Dk d i) (Hn (l.getD i Ax) v)->Ow l d v
def Closed (l:List C6)(T:List St)(s:St):Prop:=Ry l s.1=true/\∀i∈Cx l s.1,Hi (l.getD i Ax) s.2=true->child l s.1 s.2 i∈T
theorem Closed.more{T:List St}{s:St}(h:Closed l T s)(E:List St):Closed l (T++E) s:=⟨h.1,λi hi ht=>P3 _ (h.2 i hi ht)⟩
theorem Ow.closed{T:List St}(h:∀s∈T,Closed l T s)(c:Ow l d v):(d,v)∉T:=by
 induction c with
 |all d v hl=>intro hm;have:=(h _ hm).1;simp only at this;rw[hl]at this;cases this
 |pick d v i hi ht _ ih=>exact λhm=>ih ((h _ hm).2 i hi ht)
def LH (l:List C6)(d:tyN)(v:tyI)(T:List St)(ok:Bool)(T':List St):Prop:=
 (ok=true->Ow l d v)/\(ok=false->(d,v)∈T'/\∃E,T'=T++E/\∀s∈E,Closed l T' s)
theorem LH.comp{ok:Bool}{T':List St}(h:LH l d v [] ok T'):ok=true↔Ow l d v:=by
 refine⟨h.1,λc=>?_⟩;cases hok:ok with
 |true=>rfl
 |false=>
  obtain⟨hm,E,hE,hc⟩:=h.2 hok;rw[PL]at hE;exact absurd hm (c.closed (by rw[<-hE]at hc;exact hc))
def bA (d n:tyN):Nat:=(List.range n).countP λi=> !hasB d i
theorem UD(d n:tyN):bA d (n+1)=bA d n+if hasB d n then 0 else 1:=by
 unfold bA;rw[MQ,List.countP_append];cases h:hasB d n<;>simp[h]
theorem iL(d i:tyN)(h:hasB d i=false)(n:tyN):bA (Dk d i) n+(if i<n then 1 else 0)=bA d n:=by
 induction n with
 |zero=>rfl
 |succ n ih=>
  rw[UD,UD,<-ih,Tu];by_cases hn:n=i
  .subst hn;rw[h];simp
  .have:(n==i)=false:=Dy.2 hn;rw[this,jm];by_cases hi:i<n
   .rw[AK hi,AK (by omega:i<n+1)];omega
   .rw[AI hi,AI (by omega:¬i<n+1)];rfl
def und (l:List C6)(d:tyN):Nat:=bA d l.length
theorem Wh(h:i∈Cx l d):i<l.length/\hasB d i=false/\∀q,q<l.length->hasB d q=true\/Bt (l.getD q Ax) (l.getD i Ax)=false:=by
 unfold Cx F4 at h;obtain⟨h1,h2⟩:=Db.1 h;unfold Ul ON at h2;rw[Fh,tY,Ts]at h2;refine⟨Dz.1 h1,h2.1,λq hq=>?_⟩;have:=h2.2 q (Dz.2 hq);rw[Bool.or_eq_true,tY]at this;exact this
theorem fJ(h:i∈Cx l d):und l (Dk d i)+1=und l d:=by
 obtain⟨h1,h2,_⟩:=Wh h;have:=iL d i h2 l.length;rw[AK h1]at this;exact this
theorem lN(l:List C6)(d:tyN):(Cx l d).length<=und l d:=by
 unfold Cx F4 und bA;rw[<-List.countP_eq_length_filter];refine List.countP_mono_left (λi _ h=>?_);unfold Ul ON at h;rw[Fh]at h;exact h.1
theorem fA(k:tyN):hasB 0 k=false:=by unfold hasB;simp
def ValAt (l:List C6)(v0:tyI)(S:Nat->Prop)(key:Nat->Nat)(k:tyN)(v:tyI):Prop:=
 (∃w,S w/\(l.getD w Ax).wr=true/\key w<k/\(∀w',S w'->(l.getD w' Ax).wr=true->key w'<k->key w'<=key w)/\v=(l.getD w Ax).val)\/((∀w,S w->(l.getD w Ax).wr=true->k<=key w)/\v=v0)
theorem eV{v0:tyI}{S:Nat->Prop}{key:Nat->Nat}{K:tyN}(hS:∀i,S i->i<l.length/\key i<K)(hinj:∀i j,S i->S j->key i=key j->i=j)
  (hall:∀i,i<l.length->(l.getD i Ax).to≠ -1->S i) (hah:∀i j,i<l.length->S j->Bt (l.getD i Ax) (l.getD j Ax)=true->S i/\key i<key j)
  (hrd:∀i,S i->(l.getD i Ax).wr=false->(l.getD i Ax).to≠ -1->ValAt l v0 S key (key i) (l.getD i Ax).val):Ow l 0 v0:=by
 have uni:∀k v v',ValAt l v0 S key k v->ValAt l v0 S key k v'->v=v':=λk v v' h h'=>by
  rcases h with⟨w,a1,a2,a3,a4,a5⟩|⟨a1,a2⟩<;>rcases h' with⟨w',b1,b2,b3,b4,b5⟩|⟨b1,b2⟩
  .have:=hinj w w' a1 b1 (Nat.le_antisymm (b4 w a1 a2 a3) (a4 w' b1 b2 b3));rw[a5,b5,this]
  .exact absurd a3 (Nat.not_lt.2 (b1 w a1 a2))
  .exact absurd b3 (Nat.not_lt.2 (a1 w' b1 b2))
  .rw[a2,b2]
 have step:∀m,m<=K->∀d v,(∀i,hasB d i=true↔S i/\key i<K-m)->ValAt l v0 S key (K-m) v->Ow l d v:=λm=>by
  induction m with
  |zero=>
   intro _ d v hd hv;refine .all d v ?_;unfold Ry M7;rw[List.any_eq_false];intro i hi hh;rw[Fh,Ol]at hh;have hs:=hall i (Dz.1 hi) hh.1;have:=(hd i).2 ⟨hs,(hS i hs).2⟩;rw[this]at hh;simp at hh
  |succ m ih=>
   intro hm d v hd hv;have hk:K-m=K-(m+1)+1:=J;by_cases hi:∃i,S i/\key i=K-(m+1)
   .obtain⟨i,h1,h2⟩:=hi
    have hnot:hasB d i=false:=by
     cases e:hasB d i with
     |false=>rfl
     |true=>have:=((hd i).1 e).2;omega
    refine .pick d v i ?_ ?_ (ih J _ _ (λj=>?_) ?_)
    .unfold Cx F4;refine Db.2 ⟨Dz.2 (hS i h1).1,?_⟩;unfold Ul ON;rw[hnot,Bool.not_false,Bool.true_and,Ts];intro q hq;cases e:Bt (l.getD q Ax) (l.getD i Ax)with
     |false=>simp
     |true=>
      obtain⟨q1,q2⟩:=hah q i (Dz.1 hq) h1 e;rw[(hd q).2 ⟨q1,J⟩];rfl
    .unfold Hi;cases e:(l.getD i Ax).wr with
     |true=>rfl
     |false=>
      by_cases e2:(l.getD i Ax).to= -1
      .rw[e2];rfl
      .have h3:=hrd i h1 e e2;rw[h2]at h3;rw[uni _ _ _ h3 hv];simp
    .rw[Tu,Bool.or_eq_true,Xb,hd,hk]
     constructor
     .rintro(rfl|⟨q1,q2⟩)
      .exact⟨h1,J⟩
      .exact⟨q1,J⟩
     .rintro⟨q1,q2⟩;by_cases e:key j=K-(m+1)
      .exact .inl (hinj j i q1 h1 (e.trans h2.symm))
      .exact .inr ⟨q1,J⟩
    .rw[hk];unfold Hn;cases e:(l.getD i Ax).wr with
     |true=>exact .inl ⟨i,h1,e,J,λw' _ _ q=>J,rfl⟩
     |false=>
      rcases hv with⟨w,a1,a2,a3,a4,a5⟩|⟨a1,a2⟩
      .refine .inl ⟨w,a1,a2,J,λw' b1 b2 b3=>?_,a5⟩;by_cases e3:key w'=K-(m+1)
       .rw[hinj w' i b1 h1 (e3.trans h2.symm),e]at b2;cases b2
       .exact a4 w' b1 b2 J
      .refine .inr ⟨λw b1 b2=>?_,a2⟩;have:=a1 w b1 b2;by_cases e3:key w=K-(m+1)
       .rw[hinj w i b1 h1 (e3.trans h2.symm),e]at b2;cases b2
       .omega
   .have hno:∀j,S j->key j≠K-(m+1):=λj h1 h2=>hi ⟨j,h1,h2⟩
    refine ih J d v (λj=>?_) ?_
    .rw[hd,hk]
     constructor
     .rintro⟨q1,q2⟩;exact⟨q1,J⟩
     .rintro⟨q1,q2⟩;have:=hno j q1;exact⟨q1,J⟩
    .rw[hk];rcases hv with⟨w,a1,a2,a3,a4,a5⟩|⟨a1,a2⟩
     .exact .inl ⟨w,a1,a2,J,λw' b1 b2 b3=>a4 w' b1 b2 (by have:=hno w' b1;omega),a5⟩
     .exact .inr ⟨λw b1 b2=>by have:=a1 w b1 b2;have:=hno w b1;omega,a2⟩
 refine step K (A9 _) 0 v0 (λi=>?_) (.inr ⟨λw _ _=>J,rfl⟩);rw[fA]
 constructor
 .intro e;cases e
 .rintro⟨_,q⟩;omega
end
section
open Go.RowKit Go.Shelf
theorem kv(k b lo wr rd top:tyI)(n j:tyN)(w:tyW)(hn:2<=n/\n<=8)(hj:j<n)(hb:0<=b/\b<=500000)(hl:0<=lo/\lo<=500000):Calls Tryz.prog 294 #[.agg #[k,b,lo,n,wr,rd,top],j] w λe w'=>e=BA (.agg #[O 6,O (AO b n j),O (BD lo n j),n,j,O (-1),O (ET top)])/\Up w w':=by
 obtain⟨p,A,C,E,L,e1,e2,e3,e4,e5,e6,e7,b1,b2,b3,b4,b5⟩:=U5 hn hj hb hl;obtain⟨W,hW,HU,HS⟩:=LN w k b lo n wr rd top;have Sc:=I λW=>FK n W J
 have bQ:=I λW=>Ku n W J
 have Y3:=I λW=>SE top W
 have ze:=I λW=>show Calls Tryz.prog 293 #[O 4095,O (BZ top),O (BZ top)] W λe w'=>e=BA (O (ET top))/\w'=W from RN 4095 (BZ top) (BZ top) W
 rw[<-e5,<-e7];generalize ET top=TT at*;generalize BZ top=ta at*;generalize((2+18*EC n:tyN):tyI)=lc at*;have x1:wrap64 ((n:tyI)-1)=p/\IntKind.i64.wrap ((n:tyI)-1)=p:=by rw[e1];exact C0 _ J J
 have x2:wrap64 (16*(j:tyI))=A/\IntKind.i64.wrap (16*(j:tyI))=A:=by rw[e2];exact C0 _ J J
 have x3:wrap64 (A*p)=C/\IntKind.i64.wrap (A*p)=C:=by rw[e3];exact C0 _ J J
 have x4:wrap64 (C*p)=E/\IntKind.i64.wrap (C*p)=E:=by rw[e4];exact C0 _ J J
 obtain⟨BB,hBB⟩:=gX (b+E);obtain⟨LL,hLL⟩:=gX (lo+L);have x5:wrap64 (b+E)=BB/\IntKind.i64.wrap (b+E)=BB:=by rw[<-hBB];exact C0 _ J J
 have x6:wrap64 ((j:tyI)*lc)=L/\IntKind.i64.wrap ((j:tyI)*lc)=L:=by rw[e6];exact C0 _ J J
 have x7:wrap64 (lo+L)=LL/\IntKind.i64.wrap (lo+L)=LL:=by rw[<-hLL];exact C0 _ J J
 rw[hBB,hLL];obtain⟨x1,z1⟩:=x1;obtain⟨x2,z2⟩:=x2;obtain⟨x3,z3⟩:=x3;obtain⟨x4,z4⟩:=x4;obtain⟨x5,z5⟩:=x5;obtain⟨x6,z6⟩:=x6;obtain⟨x7,z7⟩:=x7;clear hBB hLL e1 e2 e3 e4 e5 e6 e7 b1 b2 b3 b4 b5 hn hj hb hl;have hb2:=Ah W (Y #[(),(),(),(),(),(),()] 130);have hu2:=(AV W).alloc (Y #[(),(),(),(),(),(),()] 130);obtain⟨W2,hW2⟩:=gX (W.alloc (Y #[(),(),(),(),(),(),()] 130));rw[hW2]at hb2 hu2;have HW2:=I hW2;obtain⟨z,hz⟩:=gX W.heap.size;rw[hz]at hb2;have HZ:=I hz;have HZW:=I (show w.heap.size<=z from by rw[<-hz];exact HU.size);have HB2:=I (λw' (u:Up W2 w')=>(u.block z (gE hb2).1).trans hb2);have Cm:=I (HU.trans hu2);have HS2:=I (λw' (u:Up W2 w')=>HS w' (hu2.trans u));have nE:=I (λcs=>HS _ (Ox hu2.drew (Jq hz) cs));obtain⟨⟨c0,c1,c2,c3⟩,c4,c5,c6⟩:=HS W2 hu2;clear hb2 hu2 hW2 hz HS;go_enter Tryz.func294,Tryz.ntmps294;go_upto_region 1 with fail;rw[HW2,HZ];go_wp2_with fail;refine(Sc _).mono ?_;rintro e W3 ⟨rfl,rfl⟩;go_upto_region 2 with fail;clear c0 c1 c2 c3 c4 c5 c6;refine Br (S:=Ji w.heap.size k b lo n wr rd top) Ay (HS2 _ (AV _).drew) (λhH0=>?_);refine tk 0 hH0 ?_
 try simp only[pS]
 refine tk 1 hH0 ?_
 try simp only[pS]
 refine tk 2 hH0 ?_
 try simp only[pS]
 refine tk 3 hH0 ?_
 try simp only[pS]
 refine tk 4 hH0 ?_
 try simp only[pS]
 refine tk 5 hH0 ?_
 try simp only[pS]
 refine tk 6 hH0 ?_
 try simp only[pS]
 refine tk 7 hH0 ?_
 try simp only[pS]
 refine tk 8 hH0 ?_
 try simp only[pS]
 refine tk 9 hH0 ?_
 try simp only[pS]
 refine tk 10 hH0 ?_
 try simp only[pS]
 refine tk 11 hH0 ?_
 try simp only[pS]
 refine tk 12 hH0 ?_
 try simp only[pS]
 refine tk 13 hH0 ?_
 try simp only[pS]
 refine tk 14 hH0 ?_
 try simp only[pS]
 refine tk 18 hH0 ?_
 try simp only[pS]
 refine tk 19 hH0 ?_
 try simp only[pS]
 refine tk 20 hH0 ?_
 try simp only[pS]
 refine tk 21 hH0 ?_
 try simp only[pS]
 refine tk 23 hH0 ?_
 try simp only[pS]
 refine tk 24 hH0 ?_
 try simp only[pS]
 refine ry 15 (λK hK=>?_);go_simp;refine(bQ _).mono ?_;rintro e _ ⟨rfl,rfl⟩;refine hK.out _ _ hH0 (λhH1=>?_);clear hK K
 try simp only[pS]
 refine tk 16 hH1 ?_
 try simp only[pS]
 refine tk 17 hH1 ?_
 try simp only[pS]
 refine ry 22 (λK hK=>?_);go_simp;refine(Y3 _).mono ?_;rintro e _ ⟨rfl,rfl⟩;refine hK.out _ _ hH1 (λhH2=>?_);clear hK K
 try simp only[pS]
 refine ry 25 (λK hK=>?_);go_simp;refine(Y3 _).mono ?_;rintro e _ ⟨rfl,rfl⟩;refine hK.out _ _ hH2 (λhH3=>?_);clear hK K
 try simp only[pS]
 refine ry 26 (λK hK=>?_);go_simp;refine(ze _).mono ?_;rintro e _ ⟨rfl,rfl⟩;refine hK.out _ _ hH3 (λVp=>?_);clear hK K
 try simp only[pS]
 refine tk 27 Vp ?_
 try simp only[pS]
 refine ry 28 (λK hK=>?_);rw[AK Ay];refine wp_store_row 130 (.tmp 4) (.tmp 36) rfl z #[O 6,BB,LL,n,j,O (-1),TT] rfl rfl 130 #[(),(),(),(),(),(),()] (HB2 _ (AV _).drew) Ay rfl (by simp[Value.oneCell']) ?_;refine hK.out _ _ (nE _) (λhH5=>?_);clear hK K;refine dz ?_;go_wp2_with fail;refine Gz (v:= .agg #[O 6,BB,LL,n,j,O (-1),TT]) ?_ rfl ⟨rfl,Ox Cm.drew HZW _⟩;exact GV rfl _ _ z 130 _ _ _ rfl (Se _ z _ _ _ _ (HB2 _ (AV _).drew)) Tryz.underlying130 rfl Ay
theorem Qu(top:tyI):0<=BZ top/\BZ top<=255:=by
 unfold BZ;rcases Fe top 255 with⟨_,h⟩|⟨_,_,_,_,h⟩|⟨_,_,_,_,h⟩|⟨_,_,_,_,h⟩<;>rw[h]<;>omega
theorem Xv(top:tyI):0<=ET top/\ET top<=1048576:=by
 have h:=Qu top;unfold ET Dg;rw[Bu 4095 1048576 AQ AQ AQ,Bu (BZ top) 1048576 h.1 J AQ,Bu (BZ top) (BZ top) h.1 (In _) J];omega
theorem Bx.putRow{q:tyN}{L:List (Nat×Array Value×TypeId)}{cs:Array Value}{t:TypeId}(h:Bx w g B ((q,cs,t)::L) W s)(u:Array Value):Bx w g B ((q,u,t)::L) (W.setRow q u) s:=by
 obtain⟨h1,h2,h3⟩:=h.bx _ (.head _);have hq:g≠q:=by have:=h.gs;dsimp only at h1;omega
 have hnd:=Nc.1 h.nd;have hkp:∀k,k≠q->hSM (W.setRow q u) W k:=λk hk=>RU W q k u hk
 have h4:Bx w g B L (W.setRow q u) s:=h.tail.stay Az rfl rfl rfl λk hk=>hkp k λe=>by
  rcases hk with hk|hk|⟨p,hp,e2⟩
  .dsimp only at h1;omega
  .exact h3 (by rw[e]at hk;exact hk)
  .exact hnd.1 (Cd.2 ⟨p,hp,e2.trans e⟩)
 refine⟨h4.gs,h4.tape,h4.tk,λp hp=>?_,h.nd⟩;rcases BJ.1 hp with rfl|hp
 .exact⟨h1,Se W q _ _ _ _ h2,λq2=>h3 (q2.same (hkp g hq))⟩
 .exact h4.bx p hp
theorem ZO(x t:tyI):0<=DW x t/\DW x t<=4398046511104:=by
 have h:=QZ t;have h2:0<=BC x 0 4398046511104/\BC x 0 4398046511104<=4398046511104:=by unfold BC;omega
 unfold DW;exact⟨Int.ediv_nonneg h2.1 J,qm (Int.ediv_le_self _ h2.1) h2.2⟩
theorem jl{s:tyI}(h:0<=s):0<=ES s v top/\ES s v top<=ET top:=by
 have ht:=Qu top
 have hv:0<=AZ v (BZ top)/\AZ v (BZ top)<=BZ top:=by
  rcases Fe v (BZ top)with⟨_,h⟩|⟨_,_,_,_,h⟩|⟨_,_,_,_,h⟩|⟨_,_,_,_,h⟩<;>rw[h]<;>omega
 have hm:0<=min (s+1) 4095/\min (s+1) 4095<=4095:=J;have h3:min (s+1) 4095*(BZ top+1)<=4095*(BZ top+1):=TQ hm.2 J;have h4:0<=min (s+1) 4095*(BZ top+1):=aI hm.1 J;unfold ES ET Dg;rw[Bu (min (s+1) 4095) 1048576 hm.1 J AQ,Bu 4095 1048576 AQ AQ AQ,Bu (BZ top) 1048576 ht.1 J AQ,Bu (AZ v (BZ top)) (BZ top) hv.1 hv.2 J,Bu (BZ top) (BZ top) ht.1 (In _) J];omega
def lz (p:Int×Int):Value:= .agg #[p.1,p.2]
theorem gU{α:Type}{me:tyN}{f:AD->Op Int}{F:Int->Op α}{R:Option α×TS}(h:AX W g B s)(hn:2<=n/\n<=8)(hm:me<n)(hj:j<n)(hb:0<=b/\b<=500000)(hl:0<=lo/\lo<=500000)(hf:f=Q5 b lo n top me)
  (hE:((if j=me then .get (BD lo n j+1) F else .ask (1,AO b n j,0) F:Op α).sub f).BH s=R):
  Calls Tryz.prog 256 #[pT g,.agg #[O 6,O (AO b n j),O (BD lo n j),n,j,O (-1),O (ET top)],me] W (Goes g B W R encI λx=>(F x).sub f):=by
 obtain⟨p,A,C,D,L,e1,e2,e3,e4,e5,e6,e7,b1,b2,b3,b4,b5⟩:=U5 hn hj hb hl;subst hf;by_cases hjm:j=me
 .subst hjm;rw[AK rfl]at hE;exact Aw (RS 6 _ _ (-1) (ET top) n j g B s W h hn hj ⟨J,J⟩) (tJ hE)
 .rw[AI hjm]at hE;exact Aw (RZ 6 _ _ (-1) (ET top) n j me g B s W h hn hj hm (Cz hjm) ⟨J,J⟩ ⟨J,J⟩ (Xv top)) (KV (LJ hn.1 rfl) hE)
theorem fD{me:tyN}{js:List Nat}{p:Int×Int}{F:Int×Int->Op Int}:Hr b lo n me top (j::js) p F=if j=me then .get (BD lo n j+1) λx=>Hr b lo n me top js (Ct p (DO top x)) F else .ask (1,AO b n j,0) λx=>Hr b lo n me top js (Ct p (DO top x)) F:=rfl
theorem Og{r1:tyN}{L:List (Nat×Array Value×TypeId)}{k n wr rd tp:tyI}{t:TypeId}(h:Bx w g B L W s)(h1:(r1,#[.int .i64 k,.int .i64 b,.int .i64 lo,.int .i64 n,.int .i64 wr,.int .i64 rd,.int .i64 tp],t)∈L):Ji r1 k b lo n wr rd tp W:=
 ⟨⟨h.cell h1 0,h.cell h1 1,h.cell h1 2,h.cell h1 3⟩,h.cell h1 4,h.cell h1 5,h.cell h1 6⟩
theorem Rg(k b lo ww rd top:tyI)(n me:tyN)(F:Int×Int->Op Int)(R:Option Int×TS)(g B:tyN)(s:TS)(W:tyW)(h:AX W g B s)(hn:2<=n/\n<=8)(hm:me<n)(hb:0<=b/\b<=500000)(hl:0<=lo/\lo<=500000)
  (hE:((Hr b lo n me top (List.range n) (0,0) F).sub (Q5 b lo n top me)).BH s=R):
  Calls Tryz.prog 290 #[pT g,.agg #[k,b,lo,n,ww,rd,top],me] W (λe w'=>Goes g B W R lz (λp=>(F p).sub (Q5 b lo n top me)) e w'/\∀q:Int×Int,e=BA (lz q)->0<=q.1/\q.1<=4398046511104):=by
 have Sc:=I λW=>FK n W J
 have di:=I λ(j:tyN) (hj:j<n) W=>kv k b lo ww rd top n j W hn hj hb hl
 have HRD:=I λ(j:tyN) (hj:j<n) s W (ht:AX W g B s) F (hE:_)=>gU (α:=Int) (R:=R) (f:=Q5 b lo n top me) (F:=F) (top:=top) ht hn hm hj hb hl rfl hE
 have Y3:=I λW=>SE top W
 have sC:=I λx W=>RI x (BZ top) W
 have HPO:=I λx=>show DO top x=(DW x (BZ top),B4 x (BZ top))from rfl
 have HN:=I hn;have HB0:=I ((((Bx.start h).alloc #[k,b,lo,n,ww,rd,top] 130).alloc #[(),()] 303).alloc #[(),()] 303);have hE0:=I (show((Hr b lo n me top ((List.range n).drop 0) (0,0) F).sub (Q5 b lo n top me)).BH s=R from hE);obtain⟨w2,hw2⟩:=gX (((W.alloc (Y #[k,b,lo,n,ww,rd,top] 130)).alloc (Y #[(),()] 303)).alloc (Y #[(),()] 303));rw[hw2]at HB0;simp only[Cy]at HB0;obtain⟨r1,hr1⟩:=gX W.heap.size;obtain⟨p1,hp1⟩:=gX (r1+1);obtain⟨p2,hp2⟩:=gX (p1+1);rw[hr1,hp1,hp2]at HB0;have HW2:=I hw2;have HR1:=I hr1;have HP1:=I hp1;have io:=I hp2;clear h hE hb hl hn hm hw2 hr1 hp1 hp2;go_enter Tryz.func290,Tryz.ntmps290;go_upto_region 2 with fail;simp only[Cy,HR1.out,HP1.out,io.out,HW2.out];clear HR1 HP1 io HW2;obtain⟨⟨c0,c1,c2,c3⟩,c4,c5,c6⟩:=Og HB0 P4;go_wp2_with fail;refine(Sc _).mono ?_;rintro e w3 ⟨rfl,rfl⟩;clear c0 c1 c2 c3 c4 c5 c6;go_upto_region 3 with fail
 go_loopw[14] (λx wz=> ∃(j:tyN) (p:Int×Int) (s:TS),j<=n/\x=O j/\Hid (0<=p.1/\p.1<=4398046511104)/\Hid (Bx W g B [(p2,#[p.1,p.2],303),(p1,#[(),()],303),(r1,#[k,b,lo,n,ww,rd,top],130)] wz s)/\Hid (((Hr b lo n me top ((List.range n).drop j) p F).sub (Q5 b lo n top me)).BH s=R)) (λx _=>n-(intOf x).toNat)
 case atStart=>exact⟨0,(0,0),s,DV _,rfl,I AQ,HB0,hE0⟩
 case round=>
  obtain⟨j,p,s2,hj,rfl,HP,HB2,E2⟩:=hrel;by_cases hlt:j<n
  .have hji:(j:tyI)<n:=J
   have E3:=I (show(((if j=me then .get (BD lo n j+1) λx=>Hr b lo n me top ((List.range n).drop (j+1)) (Ct p (DO top x)) F else .ask (1,AO b n j,0) λx=>Hr b lo n me top ((List.range n).drop (j+1)) (Ct p (DO top x)) F):Op Int).sub (Q5 b lo n top me)).BH s2=R from by
    have:=E2.out;rw[Jj hlt,fD]at this
    exact this)
   have HJ:=I hlt;have HB3:=I (HB2.up (AV _).drew);clear hlt hj E2 hE0 HB2;go_upto_region 5 with fail;refine Br (S:=Ji r1 k b lo n ww rd top) Ay (Og HB3 P4) (λhH0=>?_);refine tk 0 hH0 ?_
   try simp only[pS]
   refine tk 1 hH0 ?_
   try simp only[pS]
   refine tk 2 hH0 ?_
   try simp only[pS]
   refine tk 4 hH0 ?_
   try simp only[pS]
   refine tk 6 hH0 ?_
   try simp only[pS]
   refine tk 7 hH0 ?_
   try simp only[pS]
   refine ry 3 (λK hK=>?_);go_simp;refine(di j HJ _).mono ?_;rintro e w4 ⟨rfl,ML⟩;have IM:=I (HB3.up ML);clear ML HB3;refine bk hK (Og IM P4) λhH1=>?_
   refine ry 5 (λK hK=>?_);go_simp;refine(HRD j HJ _ _ IM.tape _ E3.out).mono ?_;rintro e w5 (⟨s5,rfl,H5,J5,E5⟩|⟨x,s5,rfl,H5,J5,E5⟩)
   .dsimp only;clear hK K
    go_wp2
    exact⟨rfl,.inl ⟨s5,rfl,H5,I (IM.tk.trans J5.out),E5⟩,λq e=>by cases e⟩
   unfold encI;have FA:=I (IM.call J5.out H5);clear H5 J5 IM E3;refine bk hK (Og FA P4) λhH2=>?_
   refine ry 8 (λK hK=>?_);go_simp;refine(Y3 _).mono ?_;rintro e _ ⟨rfl,rfl⟩;refine bk hK (Og FA P4) λhH3=>?_
   refine ry 9 (λK hK=>?_);go_simp;refine(sC x _).mono ?_;rintro e w6 ⟨rfl,Kb⟩;have Je:=I (FA.up Kb);clear Kb FA;refine bk hK (Og Je P4) λVp=>?_
   refine tk 10 Vp ?_
   try simp only[pS]
   refine tk 11 Vp ?_
   try simp only[pS]
   refine tk 12 Vp ?_
   try simp only[pS]
   refine tk 13 Vp ?_
   try simp only[pS]
   refine tk 14 Vp ?_
   try simp only[pS]
   refine dz ?_
   try simp only[pS,Gi,Gg,GX]
   have y0:=Je.cell (.head _) 0;have y1:=Je.cell (.head _) 1;simp only[Iv,Is,I6]at y0 y1;have uf:=HN.out;have E6:=I (show((Hr b lo n me top ((List.range n).drop (j+1)) (if p.1<=DW x (BZ top)then(DW x (BZ top),B4 x (BZ top))else p) F).sub (Q5 b lo n top me)).BH s5=R from E5.out);clear E5 HPO;have HA:=I (ZO x (BZ top));generalize DW x (BZ top)=a at*;generalize B4 x (BZ top)=v at*;by_cases hc:p.1<=a
   .rw[AK hc]at E6;have hc2:decide (a≥p.1)=true:=by simpa using hc
    go_wp2_with(refine RH rfl 303 (.tmp 7) (.tmp 36) rfl p2 #[a,v] rfl rfl 303 #[p.1,p.2] (Je.bx _ (.head _)).2.1 Ay rfl (by simp[Value.oneCell']) ?_)
    go_roundw
    case rel=>exact⟨j+1,(a,v),s5,HJ,by go_num,HA,I (Je.putRow _),E6⟩
    case measure=>have:=HJ.out;simp[intOf];omega
   .rw[AI hc]at E6;have hc2:decide (a≥p.1)=false:=by simpa using hc
    go_wp2
    go_roundw
    case rel=>exact⟨j+1,p,s5,HJ,by go_num,HP,Je,E6⟩
    case measure=>have:=HJ.out;simp[intOf];omega
  .have hji:¬(j:tyI)<n:=J
   have E3:=I (show((F p).sub (Q5 b lo n top me)).BH s2=R from by
    have:=E2.out;rw[kM (by simp;omega)]at this
    exact this)
   have y0:=HB2.cell (.head _) 0;have y1:=HB2.cell (.head _) 1;simp only[Iv,Is,I6]at y0 y1;clear hE0 HB0 E2 hj hlt;go_wp2_with(refine RH rfl 303 (.tmp 6) (.tmp 38) rfl p1 #[p.1,p.2] rfl rfl 303 #[(),()] (HB2.bx _ On).2.1 Ay rfl (by simp[Value.oneCell']) ?_)
   have dy:=I ((HB2.perm (.swap _ _ _)).putRow #[p.1,p.2]);refine Gz (v:= .agg #[p.1,p.2]) ?_ rfl ⟨.inr ⟨p,s2,rfl,I dy.tape,I dy.tk,E3⟩,λa2 v2 e=>by obtain⟨e1,-⟩:p.1=a2/\p.2=v2:=(by simpa[lz]using e);subst e1;exact HP⟩;exact GV rfl _ _ p1 303 _ _ _ rfl (dy.bx _ (.head _)).2.1 Tryz.underlying303 rfl Ay
theorem iI(k b lo wr rd top c:tyI)(n me:tyN)(g B:tyN)(s:TS)(w:tyW)(h:AX w g B s)(hn:2<=n/\n<=8)(hm:me<n)(hb:0<=b/\b<=500000)(hl:0<=lo/\lo<=500000):
  Calls Tryz.prog 257 #[.pointer (some ⟨g,0,none⟩),.agg #[.int .i64 k,.int .i64 b,.int .i64 lo,.int .i64 n,.int .i64 wr,.int .i64 rd,.int .i64 top],.int .i64 me] w (AP encI g B w ((aX b lo n top me (1,c,0)).BH s)):=by
 obtain⟨W0,hW,HT,HU,-,HS⟩:=Cr h k b lo n wr rd top;obtain⟨R,hR⟩:=gX ((aX b lo n top me (1,c,0)).BH s);rw[hR];have zf:=I λW (ht:AX W g B s)=>Rg k b lo wr rd top n me (λp=> .ret p.2) R g B s W ht hn hm hb hl hR
 have Sc:=I λW=>FK n W J
 have hm0:¬(me:tyI)<0:=J;have hm1:¬(n:tyI)<=me:=J;clear hR h hb hl;obtain⟨⟨c0,c1,c2,c3⟩,c4,c5,c6⟩:=HS W0 (TK.refl g B W0);go_enter Tryz.func257,Tryz.ntmps257;go_wp2_with fail;refine(Sc _).mono ?_;rintro e _ ⟨rfl,rfl⟩;go_wp2_with fail;refine(zf _ HT).mono ?_;rintro e w2 ⟨(⟨s2,rfl,H2,J2,E2⟩|⟨p,s2,rfl,H2,J2,E2⟩),-⟩
 .go_wp2
  exact⟨rfl,AP.none E2.out ⟨rfl,H2,HU.trans J2.out⟩⟩
 have hf:=λ(a v:tyI) (W:tyW)=>show(Instr.field 303 (.agg #[.int .i64 a,.int .i64 v]) 1).run Tryz.prog W= .ok (.int .i64 v) W from Ay
 unfold lz
 go_wp2
 go_ret;exact AP.some E2.out.symm ⟨rfl,H2,HU.trans J2.out⟩
theorem gw(k b lo wr rd top v c:tyI)(n me:tyN)(g B:tyN)(s:TS)(w:tyW)(h:AX w g B s)(hn:2<=n/\n<=8)(hm:me<n)(hb:0<=b/\b<=500000)(hl:0<=lo/\lo<=500000):
  Calls Tryz.prog 263 #[.pointer (some ⟨g,0,none⟩),.agg #[.int .i64 k,.int .i64 b,.int .i64 lo,.int .i64 n,.int .i64 wr,.int .i64 rd,.int .i64 top],.int .i64 me,.int .i64 v] w (AP Kf g B w ((aX b lo n top me (2,c,v)).BH s)):=by
 obtain⟨W0,hW,HT,HU,-,HS⟩:=Cr h k b lo n wr rd top;obtain⟨R,hR⟩:=gX ((aX b lo n top me (2,c,v)).BH s);rw[hR];have zf:=I λW (ht:AX W g B s)=>Rg k b lo wr rd top n me (λp=> .ask (2,AO b n me,ES p.1 v top) λ_=> .set (BD lo n me+1) (ES p.1 v top) (.ret 0)) R g B s W ht hn hm hb hl hR
 have Sc:=I λW=>FK n W J
 have di:=I λW=>kv k b lo wr rd top n me W hn hm hb hl
 have Y3:=I λW=>SE top W
 have HC:=I λW=>show Calls Tryz.prog 129 #[.int .i64 v,.int .i64 (BZ top)] W _ from Cu v (BZ top) W
 have ze:=I λx W=>show Calls Tryz.prog 293 #[.int .i64 x,.int .i64 (AZ v (BZ top)),.int .i64 (BZ top)] W λe w'=>e=BA (.int .i64 (Dg x (AZ v (BZ top)) (BZ top)))/\w'=W from RN _ _ _ W
 obtain⟨p,A,C,D,L,e1,e2,e3,e4,e5,e6,e7,b1,b2,b3,b4,b5⟩:=U5 hn hm hb hl
 have xa:=I λz W s2 (ht:AX W g B s2) (hz:0<=z/\z<=ET top) (hE:((Op.ask (2,AO b n me,z) λ_=> .set (BD lo n me+1) z (.ret 0):Op Int).sub (Q5 b lo n top me)).BH s2=R)=>show Calls Tryz.prog 262 #[.pointer (some ⟨g,0,none⟩),.agg #[.int .i64 6,.int .i64 (AO b n me),.int .i64 (BD lo n me),.int .i64 n,.int .i64 me,.int .i64 (-1),.int .i64 (ET top)],.int .i64 me,.int .i64 z] W (AP Kf g B W R)from by
  have:=Qq 6 (AO b n me) (BD lo n me) (-1) (ET top) z n me g B s2 W ht hn hm ⟨J,J⟩ ⟨J,J⟩ ⟨hz.1,hz.2,(Xv top).2⟩;rw[XC]at this;have hE:((Q5 b lo n top me (2,AO b n me,z)).bind λ_=> .set (BD lo n me+1) z (.ret 0)).BH s2=R:=hE;rw[LJ hn.1 rfl]at hE;rw[<-hE];exact this
 have xL:=I λ(x:tyI) (hx:0<=x)=>jl (s:=x) (v:=v) (top:=top) hx
 have uJ:=I λ(x:tyI)=>show Dg (min (x+1) 4095) (AZ v (BZ top)) (BZ top)=ES x v top from rfl
 have hm0:¬(me:tyI)<0:=J;have hm1:¬(n:tyI)<=me:=J;clear hR h hb hl e1 e2 e3 e4 e5 e6 e7 b1 b2 b3 b4 b5;obtain⟨⟨c0,c1,c2,c3⟩,c4,c5,c6⟩:=HS W0 (TK.refl g B W0);go_enter Tryz.func263,Tryz.ntmps263;go_wp2_with fail;refine(Sc _).mono ?_;rintro e _ ⟨rfl,rfl⟩;go_wp2_with fail;refine(zf _ HT).mono ?_;rintro e w2 ⟨(⟨s2,rfl,H2,J2,E2⟩|⟨q,s2,rfl,H2,J2,E2⟩),hq⟩
 .go_wp2
  exact⟨rfl,AP.none E2.out ⟨rfl,H2,HU.trans J2.out⟩⟩
 have HQ:=I (hq q rfl);have hq2:=HQ.out;clear hq;have x1:=IntWalk.wrap64_in (q.1+1) J;have hf:=λ(a v:tyI) (W:tyW)=>show(Instr.field 303 (.agg #[.int .i64 a,.int .i64 v]) 0).run Tryz.prog W= .ok (.int .i64 a) W from Ay
 unfold lz;go_upto_region 3 with fail;have HD2:=I (H2.up (AV _).drew);have KD2:=I J2.out.drew;rw[show(if 4095<q.1+1 then 4095 else q.1+1)=min (q.1+1) 4095 from by split<;>omega];refine Br (S:=Ji w.heap.size k b lo n wr rd top) Ay (HS _ KD2.out) (λhH0=>?_);refine tk 0 hH0 ?_
 try simp only[pS]
 refine tk 1 hH0 ?_
 try simp only[pS]
 refine tk 2 hH0 ?_
 try simp only[pS]
 refine tk 4 hH0 ?_
 try simp only[pS]
 refine tk 5 hH0 ?_
 try simp only[pS]
 refine tk 6 hH0 ?_
 try simp only[pS]
 refine tk 7 hH0 ?_
 try simp only[pS]
 refine tk 8 hH0 ?_
 try simp only[pS]
 refine tk 11 hH0 ?_
 try simp only[pS]
 refine tk 12 hH0 ?_
 try simp only[pS]
 refine ry 3 (λK hK=>?_);go_simp;refine(di _).mono ?_;rintro e w4 ⟨rfl,ML⟩;have HT4:=I (HD2.up ML);have oh:=I (KD2.out.trans (TK.Bp ML));clear ML HD2 KD2;refine bk hK (HS _ oh) λhH1=>?_
 refine ry 9 (λK hK=>?_);go_simp;refine(Y3 _).mono ?_;rintro e _ ⟨rfl,rfl⟩;refine bk hK hH1 λhH2=>?_
 refine ry 10 (λK hK=>?_);go_simp;refine(HC _).mono ?_;rintro e _ ⟨rfl,rfl⟩;refine bk hK hH2 λhH3=>?_
 refine ry 13 (λK hK=>?_);go_simp;refine(Y3 _).mono ?_;rintro e _ ⟨rfl,rfl⟩;refine bk hK hH3 λVp=>?_
 refine ry 14 (λK hK=>?_);go_simp;refine(ze _ _).mono ?_;rintro e _ ⟨rfl,rfl⟩;refine bk hK Vp λhH5=>?_
 refine ry 15 (λK hK=>?_);go_simp;refine(xa (ES q.1 v top) _ s2 HT4 (xL _ HQ.1) E2.out).mono ?_;intro e w5 hT;rcases hT.two with⟨y,s5,hr,rfl,h5,k5⟩|⟨s5,hr,rfl,h5,k5⟩
 rotate_left
 .dsimp only;clear hK K
  go_wp2
  exact⟨rfl,AP.none hr ⟨rfl,h5,HU.trans (oh.trans k5)⟩⟩
 unfold Kf;refine bk hK (HS _ (oh.trans k5)) λhH6=>?_
 refine dz ?_;go_wp2_with fail
 go_end0
 exact AP.some hr ⟨rfl,h5,HU.trans (oh.trans k5)⟩
end
end Go.Proofs.YtpodgcpkccpnfaaGreat
