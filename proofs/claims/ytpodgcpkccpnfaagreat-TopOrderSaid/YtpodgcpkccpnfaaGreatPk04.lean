import Derived.Test.YtpodgcpkccpnfaaGreatPk03
set_option linter.unusedVariables false
set_option linter.unusedSimpArgs false
set_option maxRecDepth 20000
set_option maxHeartbeats 40000000
namespace Go.Proofs.YtpodgcpkccpnfaaGreat
variable{a a':AD}{A:Au}{c many v x x':Int}{AH:List (List CD)}{H:List Au}{L:List Item}{b b' e e' i j m n q t:Nat}{by':Nat->Bool×Int}{R:Value}{S:WD}{W:World}
section
open Go.RowKit
variable (M:MD)
def Kj (t:tyN)(S:WD):List Au:=if(Ma M t S).1=0 then[⟨S.now,t,(S.AU t).next,.Kp (S.AU t).acc⟩]else[]
def F2 (t:tyN)(S:WD):List Au:=
 if S.n<=t then[]
 else if(S.AU t).CV=true then[]
 else if(S.AU t).st=0 then(if(S.AU t).prog.length<=(S.AU t).next then[]else⟨S.now+1,t,(S.AU t).next,.call⟩::(Eo M t (S.now+1) (S.AU t)++(if((DX M t S.tick).AU t).st=1 then Kj M t (DX M t S.tick)else[])))
 else if(S.AU t).st=1 then Kj M t S.tick
 else⟨S.now+1,t,(S.AU t).next,.fin (S.AU t).acc (S.Dc.Bm M.fresh t (EP M t S.tick)).1⟩::Eo M t (S.now+1) ((GS M t S.tick).AU t)
def Pp (t:tyN)(S:WD):List Au:=if S.n<=t\/(S.AU t).CV=true then[]else[⟨S.now,t,(S.AU t).next,.halt⟩]
def LA (t:tyN):Nat->WD->List Au
 |0,S=>[]
 |k+1,S=>LA t k S++F2 M t (Bv M t k S).1
def Rv (p:BL)(S:WD):List Au:=if p.halt=true then Pp p.thread.toNat S else LA M p.thread.toNat p.times.toNat S
def lQ (ps:List BL):Nat->WD->List Au
 |0,S=>[]
 |k+1,S=>lQ ps k S++Rv M (ps.getD k ⟨0,0,true⟩) (B7 M ps k S).1
def SX (A:Au):Option D6:=match A.w with
 | .call=>some ⟨A.now,1,A.t,A.i,0,0,0⟩
 | .note k=>some ⟨A.now,3,A.t,A.i,k,0,0⟩
 | .ret e v=>some ⟨A.now,2,A.t,A.i,0,e,v⟩
 | .halt=>some ⟨A.now,4,A.t,A.i,0,0,0⟩
 | .Kp _=>none
 | .fin _ _=>none
theorem YY(t:tyN)(S:WD):JF M t S=(Eo M t S.now (S.AU t)).filterMap SX:=by
 unfold JF Eo;rw[Po];congr 1
 .rw[List.filterMap_map]
  induction(Co M t (S.AU t)).2.Bi.drop (S.AU t).Bi with
  |nil=>rfl
  |cons k ks ih=>rw[Gf,ih];rfl
 .cases(Co M t (S.AU t)).1 with
  |none=>rfl
  |some v=>rfl
theorem Yd(t:tyN)(S:WD):(Kj M t S).filterMap SX=[]:=by unfold Kj;split<;>rfl
theorem ji(t:tyN)(S:WD):KR M t S=(F2 M t S).filterMap SX:=by
 unfold KR F2;split
 .rfl
 split
 .rfl
 split
 .split
  .rfl
  .rw[YY];show _=Ms t S.tick::(List.filterMap SX (_++_));rw[Po]
   have:(if((DX M t S.tick).AU t).st=1 then Kj M t (DX M t S.tick)else[]).filterMap SX=[]:=by
    split
    .exact Yd M t _
    .rfl
   rw[this,Jc];rfl
 split
 .exact(Yd M t _).symm
 .rw[YY];rfl
theorem j5(t:tyN)(S:WD):JV t S=(Pp t S).filterMap SX:=by
 unfold JV Pp;split<;>rfl
theorem TZ(t:tyN)(S:WD):∀k,(Bv M t k S).2=(LA M t k S).filterMap SX
 |0=>rfl
 |k+1=>by
  show(Bv M t k S).2++KR M t _=(LA M t k S++F2 M t _).filterMap SX;rw[Po,TZ t S k,ji]
theorem mm(p:BL)(S:WD):(IJ M p S).2=(Rv M p S).filterMap SX:=by
 unfold IJ Rv;split
 .exact j5 _ _
 .exact TZ M _ _ _
theorem bY(ps:List BL)(S:WD):∀k,(B7 M ps k S).2=(lQ M ps k S).filterMap SX
 |0=>rfl
 |k+1=>by
  show(B7 M ps k S).2++_=(lQ M ps k S++_).filterMap SX;rw[Po,bY ps S k,mm]
def fB (H:List Au):Prop:= ∀(p q:tyN) (A B:Au),p<q->H[p]?=some A->H[q]?=some B->A.now<=B.now/\(A.t≠B.t->B.w≠ .halt->A.now<B.now)
theorem fB.append{X:List Au}{N:tyN}(h:fB H)(hm:∀(p:tyN) (A:Au),H[p]?=some A->A.now<=m)(hX:∀A,A∈X->A.now=N/\A.t=t)(hN:m<=N)(hh:m<N\/ ∀A,A∈X->A.w= .halt):fB (H++X):=λp q A B hpq hA hB=>by
 rcases CR q H.length with hq|hq
 .exact h p q A B hpq (CZ hA J) (CZ hB hq)
 .rw[Gb hq]at hB;have hBX:=BI hB;obtain⟨b1,b2⟩:=hX B hBX;rcases CR p H.length with hp|hp
  .have:=hm p A (CZ hA hp);refine⟨J,λ_ hw=>?_⟩;rcases hh with hh|hh
   .omega
   .exact absurd (hh B hBX) hw
  .rw[Gb hp]at hA;obtain⟨a1,a2⟩:=hX A (BI hA);exact⟨J,λe _=>absurd (a2.trans b2.symm) e⟩
theorem DN.others{M:MD}{B:BS}{pend:Nat->Option (Nat×AD)}:∀(X H:List Au),DN M H B pend->(∀A,A∈X->A.w.isFin=false)->DN M (H++X) B pend
 |[],H,h,_=>by rw[Jc];exact h
 |A::X,H,h,hX=>by
  have:=DN.others X (H++[A]) (h.other A (hX A (.head _))) λA' hA=>hX A' (.tail _ hA)
  rwa[Jt]at this
def FF (n:tyN)(ph:Nat->Ph):Nat->Option (Nat×AD):=λt=>if t<n then(ph t).pend else none
def upd {α:Type}(f:Nat->α)(t:tyN)(x:α):Nat->α:=λi=>if i=t then x else f i
theorem upd_same{α:Type}(f:Nat->α)(t:tyN)(x:α):upd f t x t=x:=AK rfl
theorem OU{α:Type}(f:Nat->α)(x:α)(h:i≠t):upd f t x i=f i:=AI h
theorem Zm(ph:Nat->Ph)(x:Ph)(ht:t<n):FF n (upd ph t x)=CH (FF n ph) t x.pend:=by
 funext i
 unfold FF CH upd;by_cases e:i=t
 .subst e;rw[AK ht,AK rfl,AK rfl]
 .rw[AI e,AI e]
structure GInv (M:MD)(AH:List (List CD))(S:WD)(H:List Au):Prop where
 n:S.n=AH.length
 n8:S.n<=8
 ex:∃(cs:Nat->List GC) (cur:Nat->Option GC) (ph:Nat->Ph),(∀t,t<S.n->Eb M AH H t (S.AU t) (cs t) (cur t) (ph t)/\∀o l,ph t≠ .mid o l)/\DN M H S.Dc (FF S.n ph)
 lt:∀(p:tyN) (A:Au),H[p]?=some A->A.t<S.n
 now:∀(p:tyN) (A:Au),H[p]?=some A->A.now<=S.now
 O7:fB H
theorem GInv.mk'{M:MD}{S':WD}{X:List Au}(h:GInv M AH S H){N:tyN}(ht:t<S.n)(hn:S'.n=S.n)(hN:S.now<=N)(hN2:N<=S'.now)(hX:∀A,A∈X->A.now=N/\A.t=t)(hh:S.now<N\/ ∀A,A∈X->A.w= .halt)
  (hex:∃(cs:Nat->List GC) (cur:Nat->Option GC) (ph:Nat->Ph),(∀t,t<S.n->Eb M AH (H++X) t (S'.AU t) (cs t) (cur t) (ph t)/\∀o l,ph t≠ .mid o l)/\DN M (H++X) S'.Dc (FF S.n ph)):GInv M AH S' (H++X):=by
 refine⟨hn.trans h.n,by rw[hn];exact h.n8,by rw[hn];exact hex,λp A hA=>?_,λp A hA=>?_,h.O7.append h.now hX hN hh⟩
 .rw[hn];rcases CR p H.length with hp|hp
  .exact h.lt p A (CZ hA hp)
  .rw[Gb hp]at hA;rw[(hX A (BI hA)).2];exact ht
 .rcases CR p H.length with hp|hp
  .have:=h.now p A (CZ hA hp);omega
  .rw[Gb hp]at hA;rw[(hX A (BI hA)).1];exact hN2
theorem BE(S:WD)(t:tyN)(th:N8):(S.put t th).AU t=th:=AK rfl
theorem BT(S:WD)(th:N8)(h:i≠t):(S.put t th).AU i=S.AU i:=AI h
theorem Hf(t now:tyN)(th:N8):∀A,A∈Eo M t now th->A.now=now/\A.t=t/\A.w.isFin=false:=λA hA=>by
 unfold Eo at hA;rcases Cs.1 hA with hA|hA
 .obtain⟨k,_,rfl⟩:=Cd.1 hA;exact⟨rfl,rfl,rfl⟩
 .cases e:(Co M t th).1 with
  |none=>rw[e]at hA;cases hA
  |some v=>rw[e]at hA;rw[Bq]at hA;subst hA;exact⟨rfl,rfl,rfl⟩
theorem WI{M:MD}{cs:List GC}{cur:Option GC}{k:Int->Op RD}{l:tyL}{pend:Nat->Option (Nat×AD)}(h:Eb M AH H t (S.AU t) cs cur (.asked a k l))(hB:DN M H S.Dc pend)(ht:t<8)(hp:pend t=none):
  ∃dV,Eb M AH (H++Kj M t S) t ((Cb M t S).AU t) cs cur dV/\(∀o l,dV≠ .mid o l)/\DN M (H++Kj M t S) (Cb M t S).Dc (CH pend t dV.pend):=by
 have hacc:(S.AU t).acc=a:=h.stat.2.1;by_cases h0:(Ma M t S).1=0
 .have e1:Kj M t S=[⟨S.now,t,(S.AU t).next,.Kp a⟩]:=by unfold Kj;rw[AK h0,hacc]
  have e2:Cb M t S={S.put t {S.AU t with st:=2}with Dc:=(Ma M t S).2}:=by unfold Cb;rw[AK h0]
  have hb:DN M (H++[⟨S.now,t,(S.AU t).next,.Kp a⟩]) (Ma M t S).2 (CH pend t (some (H.length,a))):=by
   have:=hB.begins ht hp a.1 a.2.1 a.2.2 S.now (S.AU t).next (by unfold Ma at h0;rw[hacc]at h0;exact h0);unfold Ma;rw[hacc];exact this
  have hk:a.1=1\/a.1=2:=(hb.at' t H.length a ht (by unfold CH;rw[AK rfl])).2.1;rw[e1,e2];refine⟨.begun a k l H.length,?_,λo l e=>(by cases e),hb⟩;show Eb M AH _ t ((S.put t {S.AU t with st:=2}).AU t) cs cur _;rw[BE];exact h.Kp hk S.now
 .have e1:Kj M t S=[]:=by unfold Kj;rw[AI h0]
  have e2:Cb M t S=S:=by unfold Cb;rw[AI h0]
  rw[e1,e2,Jc];refine⟨.asked a k l,h,λo l e=>(by cases e),?_⟩
  have:CH pend t (Ph.asked a k l).pend=pend:=by
   funext i;unfold CH
   by_cases e:i=t
   .subst e;rw[AK rfl,hp];rfl
   .rw[AI e]
  rw[this];exact hB
theorem GInv.tick{M:MD}(h:GInv M AH S H):GInv M AH S.tick H:=
 ⟨h.n,h.n8,h.ex,h.lt,λp A hA=>UI (h.now p A hA),h.O7⟩
theorem XB(t:tyN)(S:WD):∀A,A∈Kj M t S->A.now=S.now/\A.t=t:=λA hA=>by
 unfold Kj at hA;split at hA
 .rw[Bq]at hA;subst hA;exact⟨rfl,rfl⟩
 .cases hA
theorem GInv.pick{M:MD}(h:GInv M AH S H)(t:tyN):GInv M AH (EQ M t S) (H++F2 M t S):=by
 by_cases htn:S.n<=t
 .unfold EQ F2;rw[AK htn,AK htn,Jc];exact h
 have ht:t<S.n:=J;have wJ:t<8:=by have:=h.n8;omega
 by_cases od:(S.AU t).CV=true
 .unfold EQ F2;rw[AI htn,AI htn,AK od,AK od,Jc];exact h.tick
 obtain⟨cs,cur,ph,h1,h2⟩:=h.ex;obtain⟨hT,hnm⟩:=h1 t ht;have rJ:∀(X:List Au) (i:tyN),(∀A,A∈X->A.t=t)->i<S.n->i≠t->Eb M AH (H++X) i (S.AU i) (cs i) (cur i) (ph i):=λX i hX hi hne=>(h1 i hi).1.grow X λA hA=>by rw[hX A hA];exact Cz hne
 have done:∀(S':WD) (X:List Au) (cs':List GC) (cur':Option GC) (dV:Ph),S'.n=S.n->S'.now=S.now+1->(∀i,i≠t->S'.AU i=S.AU i)->(∀A,A∈X->A.now=S.now+1/\A.t=t)->Eb M AH (H++X) t (S'.AU t) cs' cur' dV->(∀o l,dV≠ .mid o l)->
   DN M (H++X) S'.Dc (CH (FF S.n ph) t dV.pend)->GInv M AH S' (H++X):=λS' X cs' cur' dV g1 g2 g3 g4 g5 g6 g7=>by
  refine h.mk' ht g1 (N:=S.now+1) J J g4 (.inl J) ⟨upd cs t cs',upd cur t cur',upd ph t dV,λi hi=>?_,?_⟩
  .by_cases e:i=t
   .subst e;rw[upd_same,upd_same,upd_same];exact⟨g5,g6⟩
   .rw[OU _ _ e,OU _ _ e,OU _ _ e,g3 i e];exact⟨rJ X i (λA hA=>(g4 A hA).2) hi e,(h1 i hi).2⟩
  .rw[Zm ph dV ht];exact g7
 obtain⟨yu,mu⟩:=gX (ph t);rw[mu]at hT hnm;have hpt:FF S.n ph t=yu.pend:=by unfold FF;rw[AK ht,mu]
 have hpn:yu.pend=none->CH (FF S.n ph) t none=FF S.n ph:=λe=>by
  funext i;unfold CH
  by_cases e2:i=t
  .subst e2;rw[AK rfl,hpt,e]
  .rw[AI e2]
 cases yu with
 |mid o l=>exact absurd rfl (hnm o l)
 |idle=>
  have hst:(S.AU t).st=0:=hT.stat.2.1;by_cases hnx:(S.AU t).prog.length<=(S.AU t).next
  .unfold EQ F2;rw[AI htn,AI htn,AI od,AI od,AK hst,AK hst,AK hnx,AK hnx,Jc];exact h.tick
  have eS:EQ M t S=NB M t S.tick:=by unfold EQ;rw[AI htn,AI od,AK hst,AI hnx]
  have eA:F2 M t S=⟨S.now+1,t,(S.AU t).next,.call⟩::(Eo M t (S.now+1) (S.AU t)++(if((DX M t S.tick).AU t).st=1 then Kj M t (DX M t S.tick)else[])):=by unfold F2;rw[AI htn,AI od,AK hst,AI hnx]
  obtain⟨wI,hC⟩:=hT.call J (S.now+1);obtain⟨cs2,rK,ph2,hP,hor⟩:=hC.tF (S.now+1);have UO:DN M (H++[⟨S.now+1,t,(S.AU t).next,.call⟩]++Eo M t (S.now+1) (S.AU t)) S.Dc (FF S.n ph):=(h2.other _ rfl).others _ _ λA hA=>(Hf M t _ _ A hA).2.2
  have eP:(DX M t S.tick).AU t=Gv M t (S.AU t):=BE _ _ _
  have uA:∀A,A∈(⟨S.now+1,t,(S.AU t).next,.call⟩:Au)::Eo M t (S.now+1) (S.AU t)->A.now=S.now+1/\A.t=t:=λA hA=>by
   rcases BJ.1 hA with rfl|hA
   .exact⟨rfl,rfl⟩
   .exact⟨(Hf M t _ _ A hA).1,(Hf M t _ _ A hA).2.1⟩
  have eH:H++[⟨S.now+1,t,(S.AU t).next,.call⟩]++Eo M t (S.now+1) (S.AU t)=H++(⟨S.now+1,t,(S.AU t).next,.call⟩::Eo M t (S.now+1) (S.AU t)):=Az;rw[eH]at hP UO;rcases hor with⟨rfl,hs0⟩|⟨a,k,l',rfl,hs1⟩
  .have e1:¬((DX M t S.tick).AU t).st=1:=by rw[eP,hs0];decide
   rw[eA,AI e1,Jc,eS];have e2:NB M t S.tick=DX M t S.tick:=by unfold NB;rw[AI e1]
   rw[e2];refine done _ _ cs2 rK .idle rfl rfl (λi hi=>BT _ _ hi) uA (by rw[eP];exact hP) (λo l e=>(by cases e)) ?_;rw[show Ph.idle.pend=none from rfl,hpn rfl];exact UO
  .have e1:((DX M t S.tick).AU t).st=1:=by rw[eP,hs1]
   rw[eA,AK e1,eS];have e2:NB M t S.tick=Cb M t (DX M t S.tick):=by unfold NB;rw[AK e1]
   rw[e2];rw[<-eP]at hP;obtain⟨ph3,q1,q2,q3⟩:=WI (S:=DX M t S.tick) hP UO wJ hpt;rw[Jt]at q1 q3;refine done _ _ cs2 rK ph3 ?_ ?_ (λi hi=>?_) (λA hA=>?_) q1 q2 q3
   .unfold Cb;split<;>rfl
   .unfold Cb;split<;>rfl
   .have:(Cb M t (DX M t S.tick)).AU i=(DX M t S.tick).AU i:=by
     unfold Cb;split
     .exact BT _ _ hi
     .rfl
    rw[this];exact BT _ _ hi
   .rcases Cs.1 (show A∈(_::_)++_ from hA)with hA|hA
    .exact uA A hA
    .exact XB M t _ A hA
 |asked a k l=>
  have hst:(S.AU t).st=1:=hT.stat.1;have eS:EQ M t S=Cb M t S.tick:=by unfold EQ;rw[AI htn,AI od,AI (by rw[hst];decide),AK hst]
  have eA:F2 M t S=Kj M t S.tick:=by unfold F2;rw[AI htn,AI od,AI (by rw[hst];decide),AK hst]
  rw[eS,eA];obtain⟨ph3,q1,q2,q3⟩:=WI (S:=S.tick) hT h2 wJ hpt;refine done _ _ (cs t) (cur t) ph3 ?_ ?_ (λi hi=>?_) (XB M t S.tick) q1 q2 q3
  .unfold Cb;split<;>rfl
  .unfold Cb;split<;>rfl
  .unfold Cb;split
   .exact BT _ _ hi
   .rfl
 |begun a k l b=>
  have hst:(S.AU t).st=2:=hT.stat.1;have hacc:(S.AU t).acc=a:=hT.stat.2.1;have eS:EQ M t S=DX M t (GS M t S.tick):=by unfold EQ;rw[AI htn,AI od,AI (by rw[hst];decide),AI (by rw[hst];decide)]
  obtain⟨x,hx⟩:=gX ((S.Dc.Bm M.fresh t (EP M t S.tick)).1)
  have eE:(GS M t S.tick).AU t={S.AU t with ans:=(S.AU t).ans++[x],GD:=(S.AU t).GD+1}:=by
   rw[<-hx];exact BE _ _ _
  have eA:F2 M t S=⟨S.now+1,t,(S.AU t).next,.fin a x⟩::Eo M t (S.now+1) ((GS M t S.tick).AU t):=by unfold F2;rw[AI htn,AI od,AI (by rw[hst];decide),AI (by rw[hst];decide),hacc,hx]
  obtain⟨b1,b2⟩:=h2.ends wJ (hpt.trans rfl) (EP M t S.tick) (S.now+1) (S.AU t).next;rw[hx]at b1 b2;obtain⟨wI,hF⟩:=hT.AE7 x b2 (S.now+1);rw[<-eE]at hF;obtain⟨cs2,rK,ph2,hP,hor⟩:=hF.tF (S.now+1);have hb3:=b1.others (Eo M t (S.now+1) ((GS M t S.tick).AU t)) _ λA hA=>(Hf M t _ _ A hA).2.2
  have enx:((GS M t S.tick).AU t).next=(S.AU t).next:=by rw[eE]
  have eP:(DX M t (GS M t S.tick)).AU t=Gv M t ((GS M t S.tick).AU t):=BE _ _ _;rw[Jt]at hP hb3;rw[eS,eA];have hnone:ph2.pend=none:=by rcases hor with⟨rfl,_⟩|⟨a,k,l',rfl,_⟩<;>rfl
  refine done _ _ cs2 rK ph2 rfl rfl (λi hi=>?_) (λA hA=>?_) (by rw[eP];exact hP) (λo l e=>?_) (by rw[hnone];exact hb3)
  .rw[show(DX M t (GS M t S.tick)).AU i=(GS M t S.tick).AU i from BT _ _ hi];exact BT _ _ hi
  .rcases BJ.1 hA with rfl|hA
   .exact⟨rfl,rfl⟩
   .exact⟨(Hf M t _ _ A hA).1,(Hf M t _ _ A hA).2.1⟩
  .rcases hor with⟨rfl,_⟩|⟨a,k,l',rfl,_⟩<;>cases e
theorem GInv.tV{M:MD}(h:GInv M AH S H)(t:tyN):GInv M AH (ID t S) (H++Pp t S):=by
 by_cases hq:S.n<=t\/(S.AU t).CV=true
 .unfold ID Pp;rw[AK hq,AK hq,Jc];exact h
 unfold ID Pp;rw[AI hq,AI hq];have ht:t<S.n:=J;obtain⟨cs,cur,ph,h1,h2⟩:=h.ex;refine h.mk' (S':=S.put t {S.AU t with CV:=true}) (X:=[⟨S.now,t,(S.AU t).next,.halt⟩]) (N:=S.now) ht rfl (A9 _) (A9 _) (λA hA=>?_) (.inr λA hA=>?_) ⟨cs,cur,ph,λi hi=>?_,h2.other _ rfl⟩
 .rw[Bq]at hA;subst hA;exact⟨rfl,rfl⟩
 .rw[Bq]at hA;subst hA;rfl
 .refine⟨?_,(h1 i hi).2⟩;by_cases e:i=t
  .subst e;rw[BE];exact(h1 i hi).1.halt _ _ _
  .rw[BT _ _ e];exact(h1 i hi).1.grow _ λA hA=>by rw[Bq]at hA;subst hA;exact Cz e
theorem GInv.times{M:MD}(h:GInv M AH S H)(t:tyN):∀k,GInv M AH (Bv M t k S).1 (H++LA M t k S)
 |0=>by show GInv M AH S (H++[]);rw[Jc];exact h
 |k+1=>by
  show GInv M AH (EQ M t (Bv M t k S).1) (H++(LA M t k S++F2 M t (Bv M t k S).1));rw[<-Jt];exact(h.times t k).pick t
theorem GInv.step{M:MD}(h:GInv M AH S H)(p:BL):GInv M AH (IJ M p S).1 (H++Rv M p S):=by
 unfold IJ Rv;split
 .exact h.tV _
 .exact h.times _ _
theorem GInv.run{M:MD}(h:GInv M AH S [])(ps:List BL):∀k,GInv M AH (B7 M ps k S).1 (lQ M ps k S)
 |0=>h
 |k+1=>(h.run ps k).step _
theorem GInv.start(M:MD)(AH:List (List CD))(hn:AH.length<=8)(hm:∀c t,((M.fresh c).B1 t).on=false):GInv M AH (Cv AH) []:=by
 refine⟨rfl,hn,⟨λ_=>[],λ_=>none,λ_=> .idle,λt ht=>⟨⟨rfl,rfl,λi c hc=>?_,⟨rfl,rfl,rfl,rfl,rfl⟩,λp A hA=>?_⟩,λo l e=>(by cases e)⟩,?_⟩,λp A hA=>?_,λp A hA=>?_,λp q A B _ hA=>?_⟩
 .simp at hc
 .simp at hA
 .have hp:∀t,FF AH.length (λ_=>Ph.idle) t=none:=λt=>by unfold FF;split<;>rfl
  refine⟨λt b a _ e=>?_,λt _ _=>rfl,λc=>⟨rfl,rfl,rfl,λt _ _=>hm c t,λt b a _ e=>?_⟩,λt b a _ e=>?_,λt b a _ e=>?_⟩
  .have:=(hp t).symm.trans e;cases this
  .have:=(hp t).symm.trans e;cases this
  .have:=(hp t).symm.trans e;cases this
  .have:=(hp t).symm.trans e;cases this
 .simp at hA
 .simp at hA
 .simp at hA
structure U2 (M:MD)(AH:List (List CD))(H:List Au)(t i:tyN)(c:GC):Prop where
 lt:i<(AH.getD t []).length
 path:∃o l,Path (M.P t (AN AH t i)) c.loc c.items o l/\∀p e v,c.res=some (p,e,v)->o= .ret (e,v)/\c.out=Ag l
 seq:Seq c.p0 c.items
 aO:∃now,H[c.p0]?=some ⟨now,t,i,.call⟩
 note:∀k p,Item.note k p∈c.items->∃now,H[p]?=some ⟨now,t,i,.note k⟩
 acc:∀a b e x,Item.acc a b e x∈c.items->(∃now,H[b]?=some ⟨now,t,i,.Kp a⟩)/\(a.1=1\/a.1=2)/\((∃now,H[e]?=some ⟨now,t,i,.fin a x⟩)/\Told M H a b e x\/e=H.length/\c.res=none/\AM c.p0 c.items=e)
 res:∀p e v,c.res=some (p,e,v)->AM c.p0 c.items<p/\∃now,H[p]?=some ⟨now,t,i,.ret e v⟩
 top:AM c.p0 c.items<=H.length
structure CC (M:MD)(AH:List (List CD))(H:List Au)(C:Nat->List GC):Prop where
 call:∀t,t<AH.length->∀i c,(C t)[i]?=some c->U2 M AH H t i c
 AAv:∀t,t<AH.length->∀c,(C t)[0]?=some c->c.loc=[]
 next:∀t,t<AH.length->∀i c,(C t)[i+1]?=some c->∃d p e v,(C t)[i]?=some d/\d.res=some (p,e,v)/\p<c.p0/\c.loc=d.out
 Rm:∀(p:tyN) (A:Au),H[p]?=some A->A.t<AH.length/\sx (C A.t) none 0 p A
 O7:fB H
theorem GInv.logs{M:MD}(h:GInv M AH S H):∃C,CC M AH H C:=by
 obtain⟨cs,cur,ph,h1,h2⟩:=h.ex
 obtain⟨fc,hfc⟩:∃fc:Nat->Option GC,∀t,fc t=match cur t,ph t with
  |some c,.begun a k l b=>some {c with items:=c.items++[.acc a b H.length 0]}
  |x,_=>x:=⟨_,λ_=>rfl⟩
 have hfin:∀t i c,kj M AH H t i c->U2 M AH H t i c:=λt i c hc=>by
  obtain⟨p,e,v,l,g1,g2,g3,g4,g5⟩:=hc.path;refine⟨hc.lt,⟨_,l,g1,λp' e' v' q=>?_⟩,hc.seq,hc.aO,hc.its.note,λa b e x hm=>?_,λp' e' v' q=>?_,?_⟩
  .rw[g3]at q;cases q;exact⟨rfl,g2⟩
  .obtain⟨q1,q2,q3,q4⟩:=hc.its.acc a b e x hm;exact⟨q1,q3,.inl ⟨q2,q4⟩⟩
  .rw[g3]at q;cases q;exact⟨g4,g5⟩
  .obtain⟨now,g5⟩:=g5;have:=(Be.1 g5).1;omega
 have hrun:∀t i c o l,Zq M AH H t i c o l->U2 M AH H t i c:=λt i c o l hc=>by
  refine⟨hc.lt,⟨o,l,hc.path,λp' e' v' q=>?_⟩,hc.seq,hc.aO,hc.its.note,λa b e x hm=>?_,λp' e' v' q=>?_,BP hc.last⟩
  .rw[hc.res]at q;cases q
  .obtain⟨q1,q2,q3,q4⟩:=hc.its.acc a b e x hm;exact⟨q1,q3,.inl ⟨q2,q4⟩⟩
  .rw[hc.res]at q;cases q
 have hn:=h.n
 have key:∀t,t<AH.length->∀c,fc t=some c->U2 M AH H t (cs t).length c/\c.loc=NG (cs t) (cs t).length/\Behind (cs t) (cs t).length c.p0:=λt ht c hc=>by
  obtain⟨hT,hnm⟩:=h1 t J;have hs:=hT.stat;rw[hfc]at hc;cases hp:ph t with
  |mid o l=>exact absurd hp (hnm o l)
  |idle=>rw[hp]at hs hc;rw[hs.1]at hc;cases hc
  |asked a k l=>
   rw[hp]at hs hc;obtain⟨g1,g2,d,q1,q2,q3,q4,_⟩:=hs;rw[q1]at hc;cases hc;exact⟨hrun _ _ _ _ _ q2,q3,q4⟩
  |begun a k l b=>
   rw[hp]at hs hc;obtain⟨g1,g2,d,q1,q2,q3,q4,q5,q6,q7,q8,q9,q10,now,yv⟩:=hs;rw[q1]at hc;cases hc;refine⟨⟨q2.lt,⟨k 0,l,q2.path.trans (.ask b H.length 0 (.nil _ _)),λp' e' v' q=>?_⟩,Seq.append.2 ⟨q2.seq,q8,q9,trivial⟩,q2.aO,λk p hm=>?_,λa' b' e x hm=>?_,λp' e' v' q=>?_,?_⟩,q3,q4⟩
   .rw[show d.res=none from q2.res]at q;cases q
   .rcases Cs.1 hm with hm|hm
    .exact q2.its.note k p hm
    .simp at hm
   .rcases Cs.1 hm with hm|hm
    .obtain⟨w1,w2,w3,w4⟩:=q2.its.acc a' b' e x hm;exact⟨w1,w3,.inl ⟨w2,w4⟩⟩
    .rw[Bq]at hm;cases hm;exact⟨⟨now,yv⟩,q10,.inr ⟨rfl,q2.res,by rw[AY];rfl⟩⟩
   .rw[show d.res=none from q2.res]at q;cases q
   .rw[AY];exact A9 _
 have hsplit:∀t i c,(cs t++(fc t).toList)[i]?=some c->(cs t)[i]?=some c\/i=(cs t).length/\fc t=some c:=λt i c hc=>by
  rcases CR i (cs t).length with hlt|hge
  .rw[IC hlt]at hc;exact .inl hc
  .rw[Gb hge]at hc;cases e:fc t with
   |none=>rw[e]at hc;simp at hc
   |some d=>
    rw[e]at hc;have h9:=(Be.1 hc).1;simp only[pI,IN]at h9;have h8:i=(cs t).length:=J;subst h8;simp at hc;exact .inr ⟨rfl,by rw[hc]⟩
 refine⟨λt=>cs t++(fc t).toList,λt ht i c hc=>?_,λt ht c hc=>?_,λt ht i c hc=>?_,λp A hA=>?_,h.O7⟩
 .rcases hsplit t i c hc with q|⟨rfl,q⟩
  .exact hfin t i c ((h1 t J).1.fin i c q).1
  .exact(key t ht c q).1
 .rcases hsplit t 0 c hc with q|⟨e,q⟩
  .exact((h1 t J).1.fin 0 c q).2.1
  .have:=(key t ht c q).2.1;rw[<-e]at this;exact this
 .have AA4:∃d,(cs t)[i]?=some d/\c.loc=d.out/\Behind (cs t) (i+1) c.p0:=by
   rcases hsplit t (i+1) c hc with q|⟨e,q⟩
   .have hlt:=(Be.1 q).1;have h9:=((h1 t J).1.fin (i+1) c q).2;have h8:(cs t)[i]?=some (cs t)[i]:=gG J;refine⟨_,h8,?_,h9.2⟩;rw[h9.1];show(match(cs t)[i]? with|some c=>c.out|none=>[])=_;rw[h8]
   .have h9:=(key t ht c q).2;obtain⟨d8,h8⟩:∃d,(cs t)[i]?=some d:=⟨_,gG J⟩;refine⟨d8,h8,?_,by rw[e];exact h9.2⟩;rw[h9.1,<-e];show(match(cs t)[i]? with|some c=>c.out|none=>[])=_;rw[h8]
  obtain⟨d,g1,g2,g3⟩:=AA4;obtain⟨p,e,v,l,q1,q2,q3,_⟩:=((h1 t J).1.fin i d g1).1.path;exact⟨d,p,e,v,by rw[IC (Be.1 g1).1];exact g1,q3,g3 i d p e v rfl g1 q3,g2⟩
 .have hlt:=h.lt p A hA;refine⟨J,?_⟩;obtain⟨hT,hnm⟩:=h1 A.t hlt;rcases hT.Rm p A hA rfl with q|⟨c,q1,q2⟩
  .exact .inl q
  .right
   rcases CR A.i (cs A.t).length with hl2|hge
   .rw[IC hl2]at q1;refine⟨c,by rw[IC hl2];exact q1,?_⟩;cases hw:A.w with
    |Kp a=>rw[hw]at q2;exact q2.imp id λq3=>absurd q3.2 J
    |call=>rw[hw]at q2;exact q2
    |note k=>rw[hw]at q2;exact q2
    |ret e v=>rw[hw]at q2;exact q2
    |fin a x=>rw[hw]at q2;exact q2
    |halt=>trivial
   .rw[Gb hge]at q1;cases e:cur A.t with
    |none=>rw[e]at q1;simp at q1
    |some d=>
     rw[e]at q1;have h9:=(Be.1 q1).1;simp only[pI,IN]at h9;have h8:A.i=(cs A.t).length:=J;rw[h8,VN]at q1;simp at q1;subst q1;cases hp:ph A.t with
     |mid o l=>exact absurd hp (hnm o l)
     |idle=>have hs:=hT.stat;rw[hp]at hs;rw[hs.1]at e;cases e
     |asked a k l=>
      have hf:fc A.t=some d:=by rw[hfc,e,hp]
      refine⟨d,by rw[hf,h8];exact Cq _ _,?_⟩;rw[hp]at q2;cases hw:A.w with
      |Kp a=>rw[hw]at q2;exact q2.imp id λq3=>(by cases q3.1)
      |call=>rw[hw]at q2;exact q2
      |note k=>rw[hw]at q2;exact q2
      |ret e v=>rw[hw]at q2;exact q2
      |fin a x=>rw[hw]at q2;exact q2
      |halt=>trivial
     |begun a k l b=>
      have hf:fc A.t=some {d with items:=d.items++[.acc a b H.length 0]}:=by rw[hfc,e,hp]
      refine⟨_,by rw[hf,h8];exact Cq _ _,?_⟩;rw[hp]at q2;cases hw:A.w with
      |Kp a'=>
       rw[hw]at q2;rcases q2 with⟨e',x,q3⟩|⟨q3,_⟩
       .exact .inl ⟨e',x,P3 _ q3⟩
       .cases q3
        exact .inl ⟨H.length,0,LF _ (.head _)⟩
      |call=>rw[hw]at q2;exact q2
      |note k=>rw[hw]at q2;exact P3 _ q2
      |ret e v=>rw[hw]at q2;exact q2
      |fin a x=>rw[hw]at q2;exact q2.imp λb h=>P3 _ h
      |halt=>trivial
def IH (AH:List (List CD))(C:Nat->List GC)(t i:tyN)(it:Item):Prop:=t<AH.length/\∃c,(C t)[i]?=some c/\it∈c.items
section
variable {M:MD}{AH:List (List CD)}{H:List Au}{C:Nat->List GC}
theorem CC.acc(h:CC M AH H C)(hi:IH AH C t i (.acc a b e x)):
  (∃now,H[b]?=some ⟨now,t,i,.Kp a⟩)/\(a.1=1\/a.1=2)/\b<e/\e<=H.length/\(e<H.length->(∃now,H[e]?=some ⟨now,t,i,.fin a x⟩)/\Told M H a b e x):=by
 obtain⟨ht,c,hc,hm⟩:=hi;have h1:=h.call t ht i c hc;obtain⟨q1,q2,q3⟩:=h1.acc a b e x hm;obtain⟨s1,s2,s3⟩:=h1.seq.acc hm;refine⟨q1,q2,s2,DB s3 h1.top,λhe=>?_⟩;rcases q3 with q3|⟨q3,_⟩
 .exact q3
 .omega
theorem CC.Kp(h:CC M AH H C)(hA:H[q]?=some A)(hw:A.w= .Kp a):∃e x,IH AH C A.t A.i (.acc a q e x):=by
 obtain⟨ht,hc⟩:=h.Rm q A hA;rcases hc with hc|⟨c,h1,h2⟩
 .rw[hw]at hc;cases hc
 .rw[hw]at h2;rcases h2 with⟨e,x,h2⟩|⟨h2,_⟩
  .exact⟨e,x,ht,c,h1,h2⟩
  .cases h2
theorem CC.fin(h:CC M AH H C)(hA:H[q]?=some A)(hw:A.w= .fin a x):∃b,IH AH C A.t A.i (.acc a b q x):=by
 obtain⟨ht,hc⟩:=h.Rm q A hA;rcases hc with hc|⟨c,h1,h2⟩
 .rw[hw]at hc;cases hc
 .rw[hw]at h2;obtain⟨b,h2⟩:=h2;exact⟨b,ht,c,h1,h2⟩
theorem CC.calls(h:CC M AH H C)(ht:t<AH.length){c d:GC}(hij:i<j)(hc:(C t)[i]?=some c)(hd:(C t)[j]?=some d):∃p e v,c.res=some (p,e,v)/\p<d.p0:=by
 induction j generalizing d with
 |zero=>omega
 |succ j ih=>
  obtain⟨c',p,e,v,h1,h2,h3,_⟩:=h.next t ht j d hd;rcases CR i j with hlt|hge
  .obtain⟨p',e',v',g1,g2⟩:=ih hlt h1;have hC:=h.call t ht j c' h1;obtain⟨g3,_⟩:=hC.res p e v h2;have:=hC.seq.A7;exact⟨p',e',v',g1,J⟩
  .obtain rfl:i=j:=J;rw[hc]at h1;cases h1;exact⟨p,e,v,h2,h3⟩
theorem CC.place(h:CC M AH H C)(ht:t<AH.length){c:GC}(hc:(C t)[i]?=some c)(hm:Item.acc a b e x∈c.items):c.p0<b/\b<e/\∀p e' v,c.res=some (p,e',v)->e<p:=by
 have h1:=h.call t ht i c hc;obtain⟨s1,s2,s3⟩:=h1.seq.acc hm;exact⟨s1,s2,λp e' v q=>by have:=(h1.res p e' v q).1;omega⟩
theorem CC.before(h:CC M AH H C)(hij:i<j)(h1:IH AH C t i (.acc a b e x))(h2:IH AH C t j (.acc a' b' e' x')):e<b':=by
 obtain⟨ht,c,hc,hm⟩:=h1;obtain⟨_,d,hd,hm'⟩:=h2;obtain⟨p,e0,v,g1,g2⟩:=h.calls ht hij hc hd;have:=(h.place ht hc hm).2.2 p e0 v g1;have:=(h.place ht hd hm').1;omega
theorem qr{lo:tyN}(h:Seq lo L)(h1:Item.acc a b e x∈L)(h2:Item.acc a' b' e' x'∈L):e<b'\/e'<b\/Item.acc a b e x=Item.acc a' b' e' x':=by
 induction L generalizing lo with
 |nil=>cases h1
 |cons i L ih=>
  cases i with
  |note k p=>
   rcases BJ.1 h1 with q|h1
   .cases q
   rcases BJ.1 h2 with q|h2
   .cases q
   exact ih h.2 h1 h2
  |acc a0 b0 e0 x0=>
   rcases BJ.1 h1 with q1|g1
   .rcases BJ.1 h2 with q2|g2
    .exact .inr (.inr (q1.trans q2.symm))
    .cases q1
     exact .inl (Seq.acc (L:=L) h.2.2 g2).1
   .rcases BJ.1 h2 with q2|g2
    .cases q2
     exact .inr (.inl (Seq.acc (L:=L) h.2.2 g1).1)
    .exact ih h.2.2 g1 g2
theorem CC.two(h:CC M AH H C)(h1:IH AH C t i (.acc a b e x))(h2:IH AH C t j (.acc a' b' e' x')):e<b'\/e'<b\/(i=j/\Item.acc a b e x=Item.acc a' b' e' x'):=by
 rcases Fq i j with q|q|q
 .exact .inl (h.before q h1 h2)
 .subst q;obtain⟨ht,c,hc,hm⟩:=h1;obtain⟨_,d,hd,hm'⟩:=h2;rw[hc]at hd;cases hd;exact(qr (h.call t ht i c hc).seq hm hm').imp id (Or.imp id λe=>⟨rfl,e⟩)
 .exact .inr (.inl (h.before q h2 h1))
theorem gj{H:List Au}(h:(H.take e)[q]?=some A):q<e/\H[q]?=some A:=by
 have h1:=(Be.1 h).1;rw[Ie]at h1;rw[l7 J]at h;exact⟨J,h⟩
theorem XW(M:MD)(H:List Au)(c:tyI)(h:b<=e):cellAt M (H.take e) c b=cellAt M H c b:=by
 unfold cellAt;rw[List.take_take,Ye h]
theorem CC.quiet(h:CC M AH H C){u:tyI}(hi:IH AH C t i (.acc (1,c,u) b e x))(he:e<H.length)(hk:(M.fresh c).kind=1)
  (hq:∀t' i' v b' e' x',IH AH C t' i' (.acc (2,c,v) b' e' x')->e'<b\/e<b'):x=cellAt M H c b:=by
 obtain⟨_,_,hbe,_,h1⟩:=h.acc hi;have h2:=(h1 he).2.1 rfl;unfold Wq at h2;rw[AK hk]at h2;rcases h2 with h2|⟨⟨v,q,A,w,g1,g2,g3,g4⟩,_⟩
 .rw[h2];exact XW M H c (BP hbe)
 .exfalso;obtain⟨hqe,hA⟩:=gj g1;obtain⟨e',x',hI⟩:=h.Kp hA g2;obtain⟨_,_,k1,k2,k3⟩:=h.acc hI;rcases hq _ _ _ _ _ _ hI with h3|h3
  .rcases g4 with g4|⟨g4,g5⟩
   .omega
   .obtain⟨⟨now,k4⟩,_⟩:=k3 J;have g6:=g5 e' ⟨now,A.t,A.i,.fin (2,c,w) x'⟩ k1 h3 (by rw[l7 J];exact k4) rfl;exact absurd g6 (by simp[What.isFin])
  .omega
theorem CC.wrote(h:CC M AH H C){p:tyN}(hi:IH AH C t i (.acc (2,c,v) b e x))(hep:e<p)(hp:p<=H.length)
  (hq:∀t' i' v' b' e' x',IH AH C t' i' (.acc (2,c,v') b' e' x')->e'<=e\/p<=e'):cellAt M H c p=AZ v (M.fresh c).top:=by
 obtain⟨_,_,hbe,_,h1⟩:=h.acc hi;obtain⟨⟨now,h2⟩,_⟩:=h1 J;refine Vf h2 rfl hep λj A hj1 hj2 hA u y hw=>?_
 obtain⟨b',hI⟩:=h.fin hA hw;rcases hq _ _ _ _ _ _ hI with q|q<;>omega
theorem CC.qc(h:CC M AH H C){p:tyN}(hp:p<=H.length)(hq:∀t' i' v' b' e' x',IH AH C t' i' (.acc (2,c,v') b' e' x')->p<=e'):cellAt M H c p=(M.fresh c).value:=by
 rw[Nt (p:=0) (DV _) λj A hj1 hj2 hA u y hw=>?_]
 .rfl
 .obtain⟨b',hI⟩:=h.fin hA hw;have:=hq _ _ _ _ _ _ hI;omega
theorem ed(M:MD)(H:List Au)(c:tyI)(p:tyN){lo hi:tyI}(h0:lo<=(M.fresh c).value/\(M.fresh c).value<=hi)(h1:∀v,lo<=AZ v (M.fresh c).top/\AZ v (M.fresh c).top<=hi):lo<=cellAt M H c p/\cellAt M H c p<=hi:=by
 unfold cellAt
 have:∀(L:List Au) (v:tyI),lo<=v/\v<=hi->lo<=L.foldl (oZ M c) v/\L.foldl (oZ M c) v<=hi:=λL=>by
  induction L with
  |nil=>intro v hv;exact hv
  |cons A L ih=>
   intro v hv;refine ih _ ?_;unfold oZ;split
   .split
    .exact h1 _
    .exact hv
   .exact hv
 exact this _ _ h0
end
structure EE (M:MD):Prop where
 val:∀c,(M.fresh c).value=0
 top:∀c,0<=(M.fresh c).top/\(M.fresh c).top<=1099511627776
 off:∀c t,((M.fresh c).B1 t).on=false
theorem O0(v top:tyI)(h:0<=top):0<=AZ v top/\AZ v top<=top:=by
 unfold AZ;obtain⟨c,hc⟩:=gX (BC top 0 1099511627776)
 have h2:0<=c/\c<=top:=by
  rw[<-hc];unfold BC;split
  .omega
  split<;>omega
 rw[hc];unfold BC;split
 .omega
 split<;>omega
theorem Bu(v top:tyI)(h:0<=v)(h1:v<=top)(h2:top<=1099511627776):AZ v top=v:=by
 unfold AZ BC;rw[AI J,AI (show¬top<0 by omega),AI (show¬1099511627776<top by omega),AI J]
theorem Told.small{M:MD}(hF:EE M){H:List Au}(h:Told M H a b e x)(hk:a.1=1\/a.1=2):0<=x/\x<=(M.fresh a.2.1).top:=by
 have ht:=hF.top a.2.1;rcases hk with hk|hk
 .have h1:=h.1 hk;have hc:∀p,0<=cellAt M (H.take e) a.2.1 p/\cellAt M (H.take e) a.2.1 p<=(M.fresh a.2.1).top:=λp=>ed M _ _ p (by rw[hF.val];omega) λv=>O0 v _ ht.1
  unfold Wq at h1;split at h1
  .rcases h1 with h1|⟨_,d,h1⟩
   .rw[h1];exact hc _
   .rw[h1];exact R9 d _ ht.1
  .split at h1
   .rcases h1 with h1|⟨q,A,u,g1,g2,g3,g4⟩
    .rw[h1];exact hc _
    .rw[<-g3];exact O0 u _ ht.1
   .rw[h1];exact hc _
 .rw[h.2 hk];omega
structure Seg where
 op:Nat
 lo:Nat
 items:List Item
 res:Option Int
structure zs (AH:List (List CD))(C:Nat->List GC)(T:Nat->Nat->Op Int)(cells:Int->Prop)(N:tyN)(G:Nat->List Seg):Prop where
 path:∀(t k:tyN) (s:Seg),t<AH.length->(G t)[k]?=some s->∃loc o l,Path (T t s.op) loc s.items o l/\∀e,s.res=some e->o= .ret e
 inl:∀(t k:tyN) (s:Seg) (it:Item),t<AH.length->(G t)[k]?=some s->it∈s.items->∃i,IH AH C t i it
 top:∀(t k:tyN) (s:Seg),t<AH.length->(G t)[k]?=some s->s.lo<N
 seq:∀(t k:tyN) (s:Seg),t<AH.length->(G t)[k]?=some s->Seq s.lo s.items
 next:∀(t k j:tyN) (s s':Seg),t<AH.length->k<j->(G t)[k]?=some s->(G t)[j]?=some s'->AM s.lo s.items<=s'.lo/\∃e,s.res=some e
 Rm:∀(t i:tyN) (a:AD) (b e:tyN) (x:tyI),IH AH C t i (.acc a b e x)->cells a.2.1->∃(k:tyN) (s:Seg),(G t)[k]?=some s/\Item.acc a b e x∈s.items
def IB (L:List Item)(ks:tyL):Prop:= ∀it,it∈L->(∃c u b e x,it= .acc (1,c,u) b e x)\/∃k p,it= .note k p/\k∈ks
def Np (L:List Item):Prop:= ∀a b e x,Item.acc a b e x∈L->a.1=1\/a.1=2
theorem Np.left{L M:List Item}(h:Np (L++M)):Np L:=λa b e x hm=>h a b e x (P3 _ hm)
theorem Np.right{L M:List Item}(h:Np (L++M)):Np M:=λa b e x hm=>h a b e x (LF _ hm)
theorem Np.tail{i:Item}(h:Np (i::L)):Np L:=λa b e x hm=>h a b e x (kC _ hm)
theorem IB.append{L M:List Item}{ks:tyL}(h:IB L ks)(h2:IB M ks):IB (L++M) ks:=λit hm=>(Cs.1 hm).elim (h it) (h2 it)
theorem IB.nil(ks:tyL):IB [] ks:=λit hm=>by cases hm
theorem IB.more{ks ks':tyL}(h:IB L ks)(hs:∀k,k∈ks->k∈ks'):IB L ks':=λit hm=>(h it hm).imp id λ⟨k,p,e,q⟩=>⟨k,p,e,hs k q⟩
section
variable {M:MD}{AH:List (List CD)}{H:List Au}{C:Nat->List GC}{T:Nat->Nat->Op Int}{cells:Int->Prop}{G:Nat->List Seg}
theorem zs.two(h:zs AH C T cells H.length G){k:tyN}{s s':Seg}(ht:t<AH.length)(hs:(G t)[k]?=some s)(hs':(G t)[j]?=some s')(hm:Item.acc a b e x∈s.items)(hm':Item.acc a' b' e' x'∈s'.items):
  k<j/\e<=s'.lo/\e<b'\/j<k/\e'<=s.lo/\e'<b\/k=j/\s=s':=by
 rcases Fq k j with q|q|q
 .have h1:=(h.next t k j s s' ht q hs hs').1;have h2:=((h.seq t k s ht hs).acc hm).2.2;have h3:=((h.seq t j s' ht hs').acc hm').1;exact .inl ⟨q,J,J⟩
 .subst q;rw[hs]at hs';cases hs';exact .inr (.inr ⟨rfl,rfl⟩)
 .have h1:=(h.next t j k s' s ht q hs' hs).1;have h2:=((h.seq t j s' ht hs').acc hm').2.2;have h3:=((h.seq t k s ht hs).acc hm).1;exact .inr (.inl ⟨q,J,J⟩)
end
structure Kl (W:tyW)(g B:tyN)(A:tyL)(m:tyN)(wr:tyW)(s:TS):Prop where
 tape:AX wr g B s
 tk:TK g B W wr
 ans:s.ans=A
 Bi:s.Bi.length<=m
def KW (A:tyL):Prop:= ∀x,x∈A->0<=x/\x<=1099511627776
section
variable {α:Type}{W wr w':tyW}{g B m:tyN}{A:tyL}{s:TS}
theorem Kl.start(h:AX W g B s):Kl W g B s.ans s.Bi.length W s:=⟨h,TK.refl g B W,rfl,A9 _⟩
theorem Kl.up(h:Kl W g B A m wr s)(u:Up wr w'):Kl W g B A m w' s:=⟨h.tape.up u,h.tk.trans (TK.Bp u),h.ans,h.Bi⟩
theorem Kl.more(h:Kl W g B A m wr s){m':tyN}(hm:m<=m'):Kl W g B A m' wr s:=⟨h.tape,h.tk,h.ans,DB h.Bi hm⟩
theorem Kl.base{W0:tyW}(h:Kl W g B A m wr s)(u:Up W0 W):TK g B W0 wr:=(TK.Bp u).trans h.tk
theorem Kl.block(h:Kl W g B A m wr s){cs:Array Value}{t:TypeId}(hb:BR W b cs t)(hg:b≠g)(ht:t≠3/\t≠111/\t≠168):BR wr b cs t:=
 (h.tk.block b (gE hb).1 hg (λ_ cs' e he=>by
  rw[hb]at he;simp only[Dt,Xc,P9]at he;obtain⟨_,rfl⟩:=he
  exact ht)).trans hb
theorem Kl.low(h:Kl W g B A m wr s){o:tyN}{v:tyV}(hb:V W b o v)(hg:b≠g)(hB:b<B):V wr b o v:=
 (Ak (h.tk.block b (AJ hb) hg (SQ.low hB))).trans hb
def AE9 (W wr:tyW)(g B m:tyN)(A:tyL)(s:TS)(R:Option α×TS)(a:Int×Int×Int)(k:Int->Op α)(v:tyV)(e:Ending)(w':tyW):Prop:=
 (e= .panicked (JL g)/\Hid (R=(none,s.asked a))/\Hid (A5 w' g B 2 (s.asked a))/\Hid (TK g B W w'))\/
 (e=BA v/\Hid ((k s.told).BH (s.asked a)=R)/\Hid (Kl W g B A m w' (s.asked a))/\Hid (s.acc.length<A.length))
theorem UF(h:Kl W g B A m wr s){k:Int->Op α}{R:Option α×TS}(hE:(Op.ask (2,c,v) k).BH s=R):
  Calls Tryz.prog 212 #[pT g,c,v] wr (AE9 W wr g B m A s R (2,c,v) k (.tuple #[])):=by
 by_cases hlt:s.acc.length<s.ans.length
 .have e1:(Op.ask (2,c,v) k).BH s=(k s.told).BH (s.asked (2,c,v)):=AK hlt;exact(YB g B c v s wr h.tape hlt).mono λe w' q=> .inr ⟨q.1,I (e1.symm.trans hE),I ⟨q.2.1,h.tk.trans q.2.2,h.ans,h.Bi⟩,I (by rw[<-h.ans];exact hlt)⟩
 .have e1:(Op.ask (2,c,v) k).BH s=(none,s.asked (2,c,v)):=AI hlt;exact(Rl g B c v s wr h.tape hlt).mono λe w' q=> .inl ⟨q.1,I (hE.symm.trans e1),I q.2.1,I (h.tk.trans q.2.2)⟩
theorem bj(h:Kl W g B A m wr s){i:tyI}{k:Int->Op α}{R:Option α×TS}(hE:(Op.get i k).BH s=R):
  Calls Tryz.prog 205 #[pT g,i] wr λe w'=>e=BA (O (s.get i))/\w'=wr/\Hid ((k (s.get i)).BH s=R):=
 (Vd g B i s wr h.tape).mono λe w' q=>⟨q.1,q.2,I hE⟩
theorem cO(h:Kl W g B A m wr s){i:tyI}{k:Op α}{R:Option α×TS}(hE:(Op.set i v k).BH s=R):
  Calls Tryz.prog 207 #[pT g,i,v] wr λe w'=>e=BA (.tuple #[])/\Hid (k.BH (s.set i v)=R)/\Hid (Kl W g B A m w' (s.set i v))/\Hid ((s.set i v).acc=s.acc):=
 (dU g B i v s wr h.tape).mono λe w' q=>⟨q.1,I hE,I ⟨q.2.1,h.tk.trans q.2.2,by rw[Uz];exact h.ans,by rw[dA];exact h.Bi⟩,I (qI s i v)⟩
theorem NY(h:Kl W g B A m wr s)(hm:m<1000000){k:Op α}{R:Option α×TS}(hE:(Op.note c k).BH s=R):
  Calls Tryz.prog 236 #[pT g,c] wr λe w'=>e=BA (.tuple #[])/\Hid (k.BH (s.DY c)=R)/\Hid (Kl W g B A (m+1) w' (s.DY c)):=
 (kT g B c s wr h.tape (Ro h.Bi hm)).mono λe w' q=>⟨q.1,I hE,I ⟨q.2.1,h.tk.trans q.2.2,h.ans,by simp only[TS.DY,Gx,IN];have:=h.Bi;omega⟩⟩
end
def Mr (n:tyN)(base:tyI)(me F:tyN):Op Int:= .note 1 (.ask (2,base+(me:tyI),1) λ_=> .note 2 (.note 3 (.ret 0)))
def Om (base:tyI)(me:tyN):Op Unit:= .note 5 (.ask (2,base+(me:tyI),0) λ_=> .ret ())
theorem J0(many:tyI)(x0 x2 x3 x4 x5:tyI)(w:tyW)(hm:1<=many/\many<=8):
  Calls Tryz.prog 341 #[.agg #[x0,many,x2,x3,x4,x5]] w λe w'=>e=BA many/\Up w w':=by
 have hb:=Ah w (Y #[x0,many,x2,x3,x4,x5] 128);have c1:=cI hb 1;have e1:min (max many 1) 8=many:=J;have HU:=I (show Up w (w.alloc (Y #[x0,many,x2,x3,x4,x5] 128))from(AV w).alloc _);have HM:=I hm;clear hb;go_enter Tryz.func341,Tryz.ntmps341;go_wp2_with fail
 all_goals
  go_ret;refine⟨?_,HU⟩;refine DJ (λz=>Ending.returned (Value.int .i64 z)) ?_;omega
theorem Za(n me:tyN)(AW mode base loc room:tyI)(F:tyN)(g B:tyN)(s0:TS)(W:tyW)(hn:n=1)(hme:me<n)(hb0:0<=base/\base<=40000)(hF:s0.ans.length<F)(hN:s0.Bi.length<=500000)(h:AX W g B s0):
  Calls Tryz.prog 338 #[pT g,.agg #[AW,n,mode,base,loc,room],me] W (AP encI g B W ((Mr n base me F).BH s0)):=by
 obtain⟨R,hE⟩:=gX ((Mr n base me F).BH s0);rw[hE];obtain rfl:me=0:=J;have hb:=Ah W (Y #[AW,n,mode,base,loc,room] 128);have hu:Up W (W.alloc (Y #[AW,n,mode,base,loc,room] 128)):=(AV W).alloc _;have hg:W.heap.size≠g:=by have:=h.1.gs;omega
 have HK:=I (show Kl (W.alloc (Y #[AW,n,mode,base,loc,room] 128)) g B s0.ans 500000 _ s0 from(Kl.start (h.up hu)).more hN);have HU:=I hu;have nI:=I (λ(wr:tyW) (s:TS) (m:tyN) (hk:Kl (W.alloc (Y #[AW,n,mode,base,loc,room] 128)) g B s0.ans m wr s)=>hk.block hb hg AQ);have c0:=cI hb 0;have c1:=cI hb 1;have c2:=cI hb 2;have c3:=cI hb 3;have c4:=cI hb 4;have c5:=cI hb 5;subst hn;have EK:=I (λW'=>J0 1 AW mode base loc room W' J);have mv:=I hE;clear hb hu h hE hN hF;obtain⟨A,mx⟩:=gX s0.ans;rw[mx]at HK nI;clear mx;unfold Mr at mv;have mv:Hid ((Op.note 1 (.ask (2,base,1) λ_=> .note 2 (.note 3 (.ret 0)))).BH s0=R):=I (by have h:=mv.out;rw[show base+((0:tyN):tyI)=base from XD base]at h;exact h);go_enter Tryz.func338,Tryz.ntmps338;go_wp2_with fail;generalize W.alloc (Y #[AW,O ((1:tyN):tyI),mode,base,loc,room] 128)=W1 at*;refine wp_scope_straight ?_;go_wp2_with fail;refine(EK _).mono ?_;rintro e w2 ⟨rfl,hu2⟩;have ic:=I (HK.up hu2);clear c0 c1 c2 c3 c4 c5 hu2 HK;go_wp2_with fail;refine(NY ic AQ mv).mono ?_;rintro e w3 ⟨rfl,HE,HS⟩;clear ic mv;generalize s0.DY 1=s at*;go_wp2_with fail;refine wp_label ?_;have c3:=Ar _ _ 3 _ _ _ (nI _ _ _ HS);simp only[Iv,Is,I6]at c3;go_wp2_with fail;refine(UF HS HE).mono ?_;intro e w4 hP;rcases hP with⟨rfl,HR,HT,MC⟩|⟨rfl,HE2,MC,Ea⟩
 .clear c3
  go_wp2
  exact⟨rfl,AP.none HR ⟨rfl,HT,(TK.Bp HU).trans MC⟩⟩
 clear c3 Ea;generalize s.asked _=s1 at*;go_wp2_with fail
 go_loopw[23] (λv wr=>v=()/\wr=w4) (λ_ _=>0)
 case atStart=>exact⟨rfl,rfl⟩
 case round=>
  obtain⟨rfl,rfl⟩:=hrel;go_wp2_with fail;refine(NY MC AQ HE2).mono ?_;rintro e w5 ⟨rfl,UP,M6⟩;clear MC HE2;generalize s1.DY 2=s2 at*;go_wp2_with fail
  go_loopw[9] (λv wr=>v=O 1/\wr=w5) (λ_ _=>0)
  case atStart=>exact⟨rfl,rfl⟩
  case round=>
   obtain⟨rfl,rfl⟩:=hrel;go_wp2_with fail;refine(NY M6 AQ UP).mono ?_;rintro e w6 ⟨rfl,wK,Yo⟩;clear M6 UP
   go_wp2
   go_ret;exact AP.some wK.symm ⟨rfl,Yo.tape,Yo.base HU⟩
theorem aj(n me:tyN)(AW mode base loc room:tyI)(g B:tyN)(s0:TS)(W:tyW)(hn:1<=n/\n<=8)(hme:me<n)(hb0:0<=base/\base<=40000)(hN:s0.Bi.length<=500000)(h:AX W g B s0):
  Calls Tryz.prog 339 #[pT g,.agg #[AW,n,mode,base,loc,room],me] W (AP Mq g B W ((Om base me).BH s0)):=by
 obtain⟨R,hE⟩:=gX ((Om base me).BH s0);rw[hE];have hb:=Ah W (Y #[AW,n,mode,base,loc,room] 128);have hu:Up W (W.alloc (Y #[AW,n,mode,base,loc,room] 128)):=(AV W).alloc _;have hg:W.heap.size≠g:=by have:=h.1.gs;omega
 have HK:=I (show Kl (W.alloc (Y #[AW,n,mode,base,loc,room] 128)) g B s0.ans 500000 _ s0 from(Kl.start (h.up hu)).more hN);have HU:=I hu;have nI:=I (λ(wr:tyW) (s:TS) (m:tyN) (hk:Kl (W.alloc (Y #[AW,n,mode,base,loc,room] 128)) g B s0.ans m wr s)=>hk.block hb hg AQ);have c0:=cI hb 0;have c1:=cI hb 1;have c2:=cI hb 2;have c3:=cI hb 3;have c4:=cI hb 4;have c5:=cI hb 5;have EK:=I (λW'=>J0 n AW mode base loc room W' J);have mv:=I hE;have hw2:wrap64 (base+(me:tyI))=base+(me:tyI):=IntWalk.wrap64_in _ J;clear hb hu h hE hN;obtain⟨A,mx⟩:=gX s0.ans;rw[mx]at HK nI;clear mx;unfold Om at mv;go_enter Tryz.func339,Tryz.ntmps339;go_wp2_with fail;generalize W.alloc (Y #[AW,n,mode,base,loc,room] 128)=W1 at*;refine(NY HK AQ mv).mono ?_;rintro e w3 ⟨rfl,oe,oh⟩;clear HK mv c0 c1 c2 c3 c4 c5;generalize s0.DY 5=s1 at*;have c3:=Ar _ _ 3 _ _ _ (nI _ _ _ oh);simp only[Iv,Is,I6]at c3;go_wp2_with fail;refine(UF oh oe).mono ?_;rintro e w4 (⟨rfl,hR,hT,hK⟩|⟨rfl,HE2,MC,-⟩)
 .go_wp2
  exact⟨rfl,AP.none hR.out ⟨rfl,hT.out,(TK.Bp HU).trans hK.out⟩⟩
 go_wp2_with fail
 go_end0
 exact AP.some HE2.symm ⟨rfl,MC.tape,MC.base HU⟩
theorem Ln(w:tyW):Calls Tryz.prog 146 #[O 2] w λe w'=>e=BA (.iface 242 (.agg #[]))/\Up w w':=by
 go_enter Tryz.func146,Tryz.ntmps146
 go_wp2
 go_ret;exact⟨rfl,(AV _).alloc _⟩
def Ir (AW:tyI)(n:tyN)(room base loc:tyI)(me F:tyN):Op Int:=Mr n base me F
def IX (AW:tyI)(n:tyN)(base loc:tyI)(me:tyN):Op Unit:=Om base me
structure Mi (AW:tyI)(n:tyN)(base room:tyI):Prop where
 AW:AW=2
 one:n=1
 n:1<=n/\n<=8
 room:1<=room/\room<=1048576
 base:0<=base/\base<=40000
theorem AAV{base room:tyI}(me:tyN)(AW mode loc:tyI)(F:tyN)(g B:tyN)(s0:TS)(W:tyW)(hn:n=1)(hme:me<n)(hb0:0<=base/\base<=40000)(hF:s0.ans.length<F)(hA:KW s0.ans)(hN:s0.Bi.length<=500000)(h:AX W g B s0):
  Calls Tryz.prog 334 #[.agg #[],pT g,.agg #[AW,n,mode,base,loc,room],me] W (AP encI g B W ((Mr n base me F).BH s0)):=by
 have hb:=Ah (W.alloc (Y #[] 242)) (Y #[AW,n,mode,base,loc,room] 128);rw[Cy]at hb;have HU:=I (show Up W ((W.alloc (Y #[] 242)).alloc (Y #[AW,n,mode,base,loc,room] 128))from((AV W).alloc _).alloc _);have HX:=I (λ(W':tyW) (ht:AX W' g B s0)=>Za n me AW mode base loc room F g B s0 W' hn hme hb0 hF hN ht);clear hn;have HT:=I (h.up HU);have c0:=cI hb 0;have c1:=cI hb 1;have c2:=cI hb 2;have c3:=cI hb 3;have c4:=cI hb 4;have c5:=cI hb 5;generalize(Mr n base me F).BH s0=R at*;clear hb h;go_enter Tryz.func334,Tryz.ntmps334;go_wp2_with fail;refine(HX _ HT).mono ?_;intro e w2 hP;obtain⟨ro,s'⟩:=R;cases ro with
 |none=>
  obtain⟨rfl,hT1,GQ⟩:=AP.Fd rfl hP;have HF:=I (And.intro hT1 ((TK.Bp HU).trans GQ));clear hP hT1 GQ HX HU HT c0 c1 c2 c3 c4 c5
  go_wp2
  exact⟨rfl,AP.none rfl ⟨rfl,HF.1,HF.2⟩⟩
 |some v=>
  obtain⟨rfl,hT1,GQ⟩:=AP.Fa rfl hP;have HF:=I (And.intro hT1 ((TK.Bp HU).trans GQ));clear hP hT1 GQ HX HU HT c0 c1 c2 c3 c4 c5
  go_wp2
  go_ret;exact AP.some rfl ⟨rfl,HF.1,HF.2⟩
theorem z9{base room:tyI}(me:tyN)(AW mode loc:tyI)(g B:tyN)(s0:TS)(W:tyW)(hn:n=1)(hme:me<n)(hb0:0<=base/\base<=40000)(hN:s0.Bi.length<=500000)(h:AX W g B s0):
  Calls Tryz.prog 335 #[.agg #[],pT g,.agg #[AW,n,mode,base,loc,room],me] W (AP Mq g B W ((Om base me).BH s0)):=by
 have hb:=Ah (W.alloc (Y #[] 242)) (Y #[AW,n,mode,base,loc,room] 128);rw[Cy]at hb;have HU:=I (show Up W ((W.alloc (Y #[] 242)).alloc (Y #[AW,n,mode,base,loc,room] 128))from((AV W).alloc _).alloc _);have HX:=I (λ(W':tyW) (ht:AX W' g B s0)=>aj n me AW mode base loc room g B s0 W' J hme hb0 hN ht);clear hn;have HT:=I (h.up HU);have c0:=cI hb 0;have c1:=cI hb 1;have c2:=cI hb 2;have c3:=cI hb 3;have c4:=cI hb 4;have c5:=cI hb 5;generalize(Om base me).BH s0=R at*;clear hb h;go_enter Tryz.func335,Tryz.ntmps335;go_wp2_with fail;refine(HX _ HT).mono ?_;intro e w2 hP;obtain⟨ro,s'⟩:=R;cases ro with
 |none=>
  obtain⟨rfl,hT1,GQ⟩:=AP.Fd rfl hP;have HF:=I (And.intro hT1 ((TK.Bp HU).trans GQ));clear hP hT1 GQ HX HU HT c0 c1 c2 c3 c4 c5
  go_wp2
  exact⟨rfl,AP.none rfl ⟨rfl,HF.1,HF.2⟩⟩
 |some v=>
  obtain⟨rfl,hT1,GQ⟩:=AP.Fa rfl hP;have HF:=I (And.intro hT1 ((TK.Bp HU).trans GQ));clear hP hT1 GQ HX HU HT c0 c1 c2 c3 c4 c5;go_wp2_with fail
  go_end0
  exact AP.some rfl ⟨rfl,HF.1,HF.2⟩
theorem XJ{AW:tyI}{base room:tyI}(hk:Mi AW n base room)(me:tyN)(mode loc:tyI)(F:tyN)(g B:tyN)(s0:TS)(W:tyW)(hme:me<n)(hF:s0.ans.length<F)(hA:KW s0.ans)(hN:s0.Bi.length<=500000)(h:AX W g B s0):
  Calls Tryz.prog 206 #[pT g,.agg #[AW,n,mode,base,loc,room],me] W (AP encI g B W ((Ir AW n room base loc me F).BH s0)):=by
 have hb:=Ah W (Y #[AW,n,mode,base,loc,room] 128);have hu:Up W (W.alloc (Y #[AW,n,mode,base,loc,room] 128)):=(AV W).alloc _;have hlt:=(gE hb).1;have Vk:=I (λ(W':tyW) (u:Up (W.alloc (Y #[AW,n,mode,base,loc,room] 128)) W')=>(u.block _ hlt).trans hb);have HT:=I (λ(W':tyW) (u:Up (W.alloc (Y #[AW,n,mode,base,loc,room] 128)) W')=>And.intro (h.up (hu.trans u)) (TK.Bp (g:=g) (B:=B) (hu.trans u)));have c0:=cI hb 0;obtain⟨hn,hroom,hbase⟩:=And.intro hk.one (And.intro hk.room hk.base);clear hb hu hlt h;obtain rfl:=hk.AW;have HO:=I (λW'=>Ln W');have HX:=I (λ(W':tyW) (ht:AX W' g B s0)=>show Calls Tryz.prog 334 #[.agg #[],pT g,.agg #[O 2,n,mode,base,loc,room],me] W' (AP encI g B W' ((Ir 2 n room base loc me F).BH s0))from AAV me 2 mode loc F g B s0 W' hn hme hbase hF hA hN ht);have hm:∀W,(method 429 242 (.agg #[]) "kevel/lock.acquire").run Tryz.prog W= .ok (334,.agg #[]) W:=λ_=>Ay
 clear hk hn hroom hbase;generalize(Ir _ n room base loc me F).BH s0=R at*;go_enter Tryz.func206,Tryz.ntmps206;go_wp2_with fail;refine(HO _).mono ?_;rintro e w1 ⟨rfl,hu1⟩;have hT:=HT w1 hu1;have hb:=Vk w1 hu1;have c0:=cI hb 0;have c1:=cI hb 1;have c2:=cI hb 2;have c3:=cI hb 3;have c4:=cI hb 4;have c5:=cI hb 5;have HT1:=I hT;clear hT hb hu1 HT Vk;go_wp2_with fail;refine(HX _ HT1.1).mono ?_;intro e w2 hP;obtain⟨ro,s'⟩:=R;cases ro with
 |none=>
  obtain⟨rfl,hT1,GQ⟩:=AP.Fd rfl hP;have HF:=I (And.intro hT1 (HT1.2.trans GQ));clear hP hT1 GQ HX
  go_wp2
  exact⟨rfl,AP.none rfl ⟨rfl,HF.1,HF.2⟩⟩
 |some v=>
  obtain⟨rfl,hT1,GQ⟩:=AP.Fa rfl hP;have HF:=I (And.intro hT1 (HT1.2.trans GQ));clear hP hT1 GQ HX
  go_wp2
  go_ret;exact AP.some rfl ⟨rfl,HF.1,HF.2⟩
theorem X5{AW:tyI}{base room:tyI}(hk:Mi AW n base room)(me:tyN)(mode loc:tyI)(g B:tyN)(s0:TS)(W:tyW)(hme:me<n)(hN:s0.Bi.length<=500000)(h:AX W g B s0):
  Calls Tryz.prog 208 #[pT g,.agg #[AW,n,mode,base,loc,room],me] W (AP Mq g B W ((IX AW n base loc me).BH s0)):=by
 have hb:=Ah W (Y #[AW,n,mode,base,loc,room] 128);have hu:Up W (W.alloc (Y #[AW,n,mode,base,loc,room] 128)):=(AV W).alloc _;have hlt:=(gE hb).1;have Vk:=I (λ(W':tyW) (u:Up (W.alloc (Y #[AW,n,mode,base,loc,room] 128)) W')=>(u.block _ hlt).trans hb);have HT:=I (λ(W':tyW) (u:Up (W.alloc (Y #[AW,n,mode,base,loc,room] 128)) W')=>And.intro (h.up (hu.trans u)) (TK.Bp (g:=g) (B:=B) (hu.trans u)));have c0:=cI hb 0;obtain⟨hn,hroom,hbase⟩:=And.intro hk.one (And.intro hk.room hk.base);clear hb hu hlt h;obtain rfl:=hk.AW;have HO:=I (λW'=>Ln W');have HX:=I (λ(W':tyW) (ht:AX W' g B s0)=>show Calls Tryz.prog 335 #[.agg #[],pT g,.agg #[O 2,n,mode,base,loc,room],me] W' (AP Mq g B W' ((IX 2 n base loc me).BH s0))from z9 me 2 mode loc g B s0 W' hn hme hbase hN ht);have hm:∀W,(method 429 242 (.agg #[]) "kevel/lock.release").run Tryz.prog W= .ok (335,.agg #[]) W:=λ_=>Ay
 clear hk hn hroom hbase;generalize(IX _ n base loc me).BH s0=R at*;go_enter Tryz.func208,Tryz.ntmps208;go_wp2_with fail;refine(HO _).mono ?_;rintro e w1 ⟨rfl,hu1⟩;have hT:=HT w1 hu1;have hb:=Vk w1 hu1;have c0:=cI hb 0;have c1:=cI hb 1;have c2:=cI hb 2;have c3:=cI hb 3;have c4:=cI hb 4;have c5:=cI hb 5;have HT1:=I hT;clear hT hb hu1 HT Vk;go_wp2_with fail;refine(HX _ HT1.1).mono ?_;intro e w2 hP;obtain⟨ro,s'⟩:=R;cases ro with
 |none=>
  obtain⟨rfl,hT1,GQ⟩:=AP.Fd rfl hP;have HF:=I (And.intro hT1 (HT1.2.trans GQ));clear hP hT1 GQ HX
  go_wp2
  exact⟨rfl,AP.none rfl ⟨rfl,HF.1,HF.2⟩⟩
 |some v=>
  obtain⟨rfl,hT1,GQ⟩:=AP.Fa rfl hP;have HF:=I (And.intro hT1 (HT1.2.trans GQ));clear hP hT1 GQ HX;go_wp2_with fail
  go_end0
  exact AP.some rfl ⟨rfl,HF.1,HF.2⟩
structure UpW (w0:tyW) where
 w:World
 up:Up w0 w
instance (w0:tyW):Nonempty (UpW w0):=⟨⟨w0,AV w0⟩⟩
theorem mO{w0:tyW}{o:tyN}{v:tyV}(h:V w0 b o v):∀x:UpW w0,V x.w b o v:=λx=>(x.up.cell (AJ h)).trans h
theorem VP{P:Program}{id:tyN}{Q:Exit->Act->World->Prop}{a:Act}{w w0:tyW}{l:List Oper}(hm:P.follows .mixedOrders=true)(hB:Region.lexB .any l.toArray=true)(hu:Up w0 w)
  (h:wpQuiet P l.toArray (λw'=> ∃x:UpW w0,w'=x.w) (λa'=> ∀w',(∃x:UpW w0,w'=x.w)->Q .normal a' w') l a):(Code.region id l.toArray true).wp P Q a w:=
 wp_region_quiet (C:=λw'=> ∃x:UpW w0,w'=x.w) hm hB ⟨⟨_,hu.drew⟩,rfl⟩ (Cw h)
structure Hj (W:tyW)(b:tyN)(R:tyV)(many:tyI)(m:tyN)(by':Nat->Bool×Int):Prop where
 k0:V W b 0 R
 k1:V W b 1 many
 k2:V W b 2 (.map (some m))
 on:∀t,t<8->V W b (3+t*2) (.bool (by' t).1)
 at':∀t,t<8->V W b (3+t*2+1) (O (by' t).2)
 fz:∀j,W.frozen? (aD b j)=false
theorem Hj.lt(h:Hj W b R many m by'):b<W.heap.size:=AJ h.k1
theorem Hj.same{W':tyW}(h:Hj W b R many m by')(e:hSM W' W b):Hj W' b R many m by':=
 ⟨(XV (a:=aD b 0) e).trans h.k0,(XV (a:=aD b 1) e).trans h.k1,(XV (a:=aD b 2) e).trans h.k2,
   λt ht=>(XV (a:=aD b (3+t*2)) e).trans (h.on t ht),λt ht=>(XV (a:=aD b (3+t*2+1)) e).trans (h.at' t ht),λj=>(World.frozen?_of_block (a:=aD b j) e).trans (h.fz j)⟩
theorem Hj.up{W':tyW}(h:Hj W b R many m by')(u:Up W W'):Hj W' b R many m by':=h.same (u.block b h.lt)
theorem Tl(b:tyN)(R:tyV)(many:tyI)(m:tyN)(s:BS)(t:tyI)(w:tyW)(ht0: -9223372036854775808<=t)(ht1:t<=9223372036854775807)(H:Hj w b R many m s.by'):
  Calls Tryz.prog 80 #[pT b,t] w λe w'=>e=BA (.tuple #[O (s.busy t).1,.bool (s.busy t).2])/\Up w w':=by
 by_cases hin:t<0\/8<=t
 .have he:s.busy t=(0,false):=by unfold BS.busy;rw[AK hin]
  rw[he];by_cases h0:t<0
  .clear H hin;go_enter Tryz.func80,Tryz.ntmps80
   go_wp2
   go_ret2;exact⟨rfl,AV _⟩
  .have h8:8<=t:=J;have h0b:decide (t<0)=false:=DF h0;clear H hin;go_enter Tryz.func80,Tryz.ntmps80
   go_wp2
   go_ret2;exact⟨rfl,AV _⟩
 .obtain⟨i,rfl⟩:∃i:Nat,t=(i:tyI):=⟨t.toNat,J⟩;have hi8:i<8:=J;have he:s.busy (i:tyI)=((s.by' i).2,(s.by' i).1):=by unfold BS.busy;rw[AI hin];rfl
  rw[he];have x0:=mO (H.on i hi8);have x1:=mO (H.at' i hi8);have h8:(i:tyI)<8:=J;have h0:(0:tyI)<=(i:tyI):=J;generalize s.by' i=p at*;obtain⟨po,pa⟩:=p;dsimp only at x0 x1;clear H hin he;go_enter Tryz.func80,Tryz.ntmps80;go_wp2_with fail;refine VP Ay Ay (AV _) ?_
  repeat(go_big_quiet_step ((fail)))
  refine wpQuiet_nil ?_;rintro wz ⟨⟨wy,huy⟩,uB⟩;have huz:Up w wz:=by rw[uB];exact huy
  clear uB huy
  go_wp2
  go_ret2;exact⟨rfl,huz⟩
end
end Go.Proofs.YtpodgcpkccpnfaaGreat
