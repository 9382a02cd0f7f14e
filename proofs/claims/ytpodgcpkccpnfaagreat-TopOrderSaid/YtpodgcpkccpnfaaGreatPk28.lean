import Derived.Test.YtpodgcpkccpnfaaGreatPk27
set_option linter.unusedVariables false
set_option linter.unusedSimpArgs false
set_option maxRecDepth 20000
set_option maxHeartbeats 40000000
namespace Go.Proofs.YtpodgcpkccpnfaaGreat
variable{b lo:Int}{l l':List Int}{L:List Item}{w:Nat}
section
open Go.RowKit
def XQ (b:tyI):Op RD:= .ask (1,b,0) λx=> .ret (0,x)
def pO (b:tyI)(w r t:tyN):CD->Op RD:=FH (decide (t=r)) (decide (t=w)) (XQ b) λv=> .ask (2,b,v) λ_=> .ret (0,0)
theorem GA{mr mw:Bool}{R:Op RD}{Wt:Int->Op RD}{i:tyI}(h1:R.keeps i)(h2:∀v,(Wt v).keeps i)(c:CD):(FH mr mw R Wt c).keeps i:=by
 unfold FH;split
 .split
  .exact h2 _
  .exact trivial
 .split
  .exact h1
  .exact trivial
theorem of_flat{W:List (GC×List Ch)}{u:Ch}(h:u∈W.flatMap Prod.snd):∃(i:tyN) (c:GC) (K:List Ch),W[i]?=some (c,K)/\u∈K:=by
 obtain⟨⟨c,K⟩,hz,hu⟩:=FZ.1 h;obtain⟨i,hi,ei⟩:=Dj hz;exact⟨i,c,K,by rw[gG hi,ei],hu⟩
variable {M:MD}{AH:List (List CD)}{H:List Au}{C:Nat->List GC}
def RP (M:MD)(c top:tyI):Prop:=(M.fresh c).kind=1/\(M.fresh c).top=top
theorem az(h:CC M AH H C)(hA:Sx M AH C)(hF:EE M)(hlo:0<=lo/\lo+18<=32768){r:tyN}(hw:w<AH.length)(hr:r<AH.length)(hwr:w≠r)(hP:∀t c,M.P t c=(pO b w r t c).sub (SR b lo))
  (hs:∀c,b<=c->c<b+16->RP M c (if c<b+4 then Bo else 1)) (hv:∀t i,(AN AH t i).1=16->0<=(AN AH t i).2.2/\(AN AH t i).2.2<=Bo):∃tag Gw,Vj AH C tag Gw:=by
 obtain⟨W,w1,w2,w3,hU⟩:=h.reg (g:=λ_=>SR b lo) (T:=pO b w r) (λt=>λa x=>(Qr b lo a).ask x) hP (rg:=λi=>lo<=i/\i<lo+18) (λi hi=>J) λt c i _=>by
  refine GA ?_ ?_ c
  .exact λ_=>trivial
  .exact λv _=>trivial
 have no:∀(t i:tyN) (c:GC) (K:List Ch),(W t)[i]?=some (c,K)->pO b w r t (AN AH t i)= .ret (9,0)->¬c.fine/\K=[]:=λt i c K hm hT=>by
  obtain⟨ht,hc,o',l',d,hres⟩:=w3 t i c K hm;exact LU hA ht hc (hP t) hT AQ d λp e v q=>(hres p e v q).1
 have wr:∀(i:tyN) (c:GC) (K:List Ch),(W w)[i]?=some (c,K)->(AN AH w i).1=16->c.fine/\JZ AH H.length w i c K/\∀u,u∈K->u.a=(2,b,(AN AH w i).2.2)/\u.fb<=u.e H.length:=λi c K hm h16=>by
  obtain⟨ht,hc,o',l',d,hres⟩:=w3 w i c K hm;unfold pO FH at d;rw[AK h16,Fi rfl,AK rfl]at d;obtain⟨q1,q2,q3⟩:=GM h ht hc (φ:=λ_=>0) d (λp e v q=>(hres p e v q).1) (λx=> .inl ⟨_,rfl,rfl,rfl⟩) (by simp[h16]) (λ_=>rfl) λe=>by cases e
  exact⟨q1,q2,λu hu=>⟨(q3 u hu).1,(q3 u hu).2.2⟩⟩
 have rd:∀(i:tyN) (c:GC) (K:List Ch),(W r)[i]?=some (c,K)->(AN AH r i).1≠16->c.fine/\JZ AH H.length r i c K/\∀u,u∈K->u.a=(1,b,0):=λi c K hm h16=>by
  obtain⟨ht,hc,o',l',d,hres⟩:=w3 r i c K hm;unfold pO FH at d;rw[AI h16,Fi rfl,AK rfl]at d;obtain⟨q1,q2,q3⟩:=GM h ht hc (φ:=id) d (λp e v q=>(hres p e v q).1) (λx=> .inl ⟨_,rfl,rfl,rfl⟩) (by simp[h16]) (λe=>absurd rfl e) λ_ x=>rfl
  exact⟨q1,q2,λu hu=>(q3 u hu).1⟩
 have noW:∀t i,t≠w->(AN AH t i).1=16->pO b w r t (AN AH t i)= .ret (9,0):=λt i ht h16=>by unfold pO FH;rw[AK h16,DF ht];rfl
 have pB:∀t i,t≠r->(AN AH t i).1≠16->pO b w r t (AN AH t i)= .ret (9,0):=λt i ht h16=>by unfold pO FH;rw[AI h16,DF ht];rfl
 have hone:∀t,t≠w->t≠r->(W t).flatMap Prod.snd=[]:=λt h1 h2=>by
  refine tZ.2 λz hz=>?_
  obtain⟨i,hi,ei⟩:=Dj hz;obtain⟨c,K⟩:=z;refine(no t i c K (by rw[gG hi,ei]) ?_).2;by_cases h16:(AN AH t i).1=16
  .exact noW t i h1 h16
  .exact pB t i h2 h16
 have hwk:∀u,u∈(W w).flatMap Prod.snd->(u.a.1=2/\0<=u.a.2.2/\u.a.2.2<=Bo)/\u.fb<=u.e H.length:=λu hu=>by
  obtain⟨i,c,K,hm,hK⟩:=of_flat hu;by_cases h16:(AN AH w i).1=16
  .obtain⟨_,_,q⟩:=wr i c K hm h16;have:=hv w i h16;rw[(q u hK).1];exact⟨⟨rfl,this⟩,(q u hK).2⟩
  .rw[(no w i c K hm (pB w i hwr h16)).2]at hK;cases hK
 have QG:∀u,u∈(W r).flatMap Prod.snd->u.a.1=1:=λu hu=>by
  obtain⟨i,c,K,hm,hK⟩:=of_flat hu;by_cases h16:(AN AH r i).1=16
  .rw[(no r i c K hm (noW r i hwr.symm h16)).2]at hK;cases hK
  .obtain⟨_,_,q⟩:=rd i c K hm h16;rw[q u hK]
 obtain⟨f,hf⟩:=O3 hlo hU (λi q1 q2=>⟨q1,q2⟩) (λc _ _=>trivial) hwr hone (λu hu=>(hwk u hu).1) QG λc q1 q2=>h.Oe hF (hs c q1 q2).1 (hs c q1 q2).2
 have hrr:∀t,t≠w->∀p q x,B6 H.length ((W t).flatMap Prod.snd) p q x->t=r:=λt EW p q x ⟨u,u1,_⟩=>by
  refine TR λhtr=>?_
  rw[hone t EW htr]at u1;cases u1
 have hf2:SW (((W w).flatMap Prod.snd).map (Ch.wr H.length)) (λp q x=> ∃t,t≠w/\B6 H.length ((W t).flatMap Prod.snd) p q x) f:=by
  have e:(λp q x=> ∃t,t≠w/\B6 H.length ((W t).flatMap Prod.snd) p q x)=B6 H.length ((W r).flatMap Prod.snd):=by
   funext p q x
   refine propext ⟨λ⟨t,h1,h2⟩=>?_,λh2=>⟨r,hwr.symm,h2⟩⟩;rw[hrr t h1 p q x h2]at h2;exact h2
  rw[e];exact hf
 refine VS h hw w1 w2 hf2 (λt _=>(hU.uses t).rd (Qr b lo)) (λt t' p q x q' x' h1 h2 h3 h4=>by rw[hrr t h1 _ _ _ h3,hrr t' h2 _ _ _ h4]) (λi c K hm=>?_) (λt i c K ht EW hm=>?_) λu hu=>(hwk u hu).2
 .by_cases h16:(AN AH w i).1=16
  .exact .inr (.inl ⟨(wr i c K hm h16).1,h16,.inl (wr i c K hm h16).2.1⟩)
  .exact .inl (no w i c K hm (pB w i hwr h16))
 .by_cases h16:(AN AH t i).1=16
  .exact .inl (no t i c K hm (noW t i EW h16))
  .by_cases htr:t=r
   .subst htr;exact .inr ⟨(rd i c K hm h16).1,h16,(rd i c K hm h16).2.1⟩
   .exact .inl (no t i c K hm (pB t i htr h16))
end
section
open Go.RowKit
variable {M:MD}{AH:List (List CD)}{H:List Au}{C:Nat->List GC}
theorem dS(h:CC M AH H C)(hw:w<AH.length){W:List (GC×List Ch)}(hW:W.map Prod.fst=C w){LO:tyI}
  (step:∀(i:tyN) (c:GC) (K:List Ch),W[i]?=some (c,K)->c.res≠none->Ac c.out LO=if Y9 AH w c i=true then(AN AH w i).2.2 else Ac c.loc LO):∀(i:tyN) (c:GC) (K:List Ch),W[i]?=some (c,K)->Ac c.loc LO=Sm AH w W i:=λi=>by
 induction i with
 |zero=>
  intro c K hm;have hc:(C w)[0]?=some c:=by rw[<-hW,BY,hm];rfl
  rw[h.AAv w hw c hc,Uh];split<;>rfl
 |succ i ih=>
  intro c K hm;have hc:(C w)[i+1]?=some c:=by rw[<-hW,BY,hm];rfl
  obtain⟨d,p,e,v,h1,h2,h3,h4⟩:=h.next w hw i c hc;rw[<-hW,BY]at h1;cases ez:W[i]? with
  |none=>rw[ez]at h1;cases h1
  |some z=>
   obtain⟨d',K'⟩:=z;rw[ez]at h1;cases h1;show _=(match W[i]? with|none=>_|some z=>_);rw[ez,h4,step i d' K' ez (by rw[h2];simp),ih d' K' ez]
def qi (b lo v:tyI):Op RD:= .get lo λx=>if x=CT v then .ret (0,0)else .ask (2,b,CT v) λ_=> .ret (0,0)
def qP (b lo:tyI)(w r t:tyN):CD->Op RD:=FH (decide (t=r)) (decide (t=w)) (XQ b) (qi b lo)
theorem aZ(h:CC M AH H C)(hA:Sx M AH C)(hF:EE M)(hlo:0<=lo/\lo+4<=32768){r:tyN}(hw:w<AH.length)(hr:r<AH.length)(hwr:w≠r)(hP:∀t c,M.P t c=(qP b lo w r t c).sub (Ix b lo))
  (hs:∀c,b<=c->c<b+3->RP M c 1) (hv:∀t i,(AN AH t i).1=16->(AN AH t i).2.2=0\/(AN AH t i).2.2=1):∃tag Gw,Vj AH C tag Gw:=by
 obtain⟨W,w1,w2,w3,hU⟩:=h.reg (g:=λ_=>Ix b lo) (T:=qP b lo w r) (λt=>λa x=>(GW b lo a).ask x) hP (rg:=λi=>lo<=i/\i<lo+4) (λi hi=>J) λt c i _=>by
  refine GA ?_ ?_ c
  .exact λ_=>trivial
  .intro v x;show Op.keeps i (if x=CT v then _ else _);split
   .exact trivial
   .exact λ_=>trivial
 have no:∀(t i:tyN) (c:GC) (K:List Ch),(W t)[i]?=some (c,K)->qP b lo w r t (AN AH t i)= .ret (9,0)->¬c.fine/\K=[]/\(c.res≠none->Ac c.out lo=Ac c.loc lo):=λt i c K hm hT=>by
  obtain⟨ht,hc,o',l',d,hres⟩:=w3 t i c K hm;obtain⟨q1,q2⟩:=LU hA ht hc (hP t) hT AQ d λp e v q=>(hres p e v q).1
  refine⟨q1,q2,λhne=>?_⟩;cases er:c.res with
  |none=>exact absurd er hne
  |some x=>
   rw[hT]at d;rw[(hres x.1 x.2.1 x.2.2 er).2,d.BV.2.2.2,F7 _ hlo.1]
 have AGw:∀t i,(AN AH t i).1=16->CT (AN AH t i).2.2=(AN AH t i).2.2:=λt i h16=>by rcases hv t i h16 with e|e<;>rw[e]<;>rfl
 have wr:∀(i:tyN) (c:GC) (K:List Ch),(W w)[i]?=some (c,K)->(AN AH w i).1=16->c.fine/\(JZ AH H.length w i c K\/(K=[]/\c.res≠none/\(AN AH w i).2.2=Ac c.loc lo))/\(∀u,u∈K->u.a=(2,b,(AN AH w i).2.2)/\u.fb<=u.e H.length/\Ac u.l lo≠u.a.2.2/\u.its≠[])/\(c.res≠none->Ac c.out lo=(AN AH w i).2.2):=λi c K hm h16=>by
  obtain⟨ht,hc,o',l',d,hres⟩:=w3 w i c K hm;unfold qP FH at d;rw[AK h16,Fi rfl,AK rfl]at d;unfold qi at d;rw[AGw w i h16]at d
  have Qf:(∀v,o'≠ .ret v)->c.res=none:=λq=>by
   cases er:c.res with
   |none=>rfl
   |some x=>exact absurd (hres x.1 x.2.1 x.2.2 er).1 (q _)
  rcases d.Ed with⟨_,q2,q3⟩|d
  .have er:=Qf q3;exact⟨λp e v q=>(by rw[er]at q;cases q),.inl (.inl ⟨q2,er⟩),λu hu=>(by rw[q2]at hu;cases hu),λq=>absurd er q⟩
  .by_cases hx:Ac c.loc lo=(AN AH w i).2.2
   .rw[AK hx]at d;obtain⟨_,q2,q3,q4⟩:=d.BV;refine⟨λp e v q=>?_,?_,λu hu=>(by rw[q2]at hu;cases hu),λq=>?_⟩
    .have:=(hres p e v q).1;rw[q3]at this;have:=Op.ret.inj this;exact(DJ Prod.fst this).symm
    .cases er:c.res with
     |none=>exact .inl (.inl ⟨q2,er⟩)
     |some x=>exact .inr ⟨q2,Az,hx.symm⟩
    .cases er:c.res with
     |none=>exact absurd er q
     |some x=>rw[(hres x.1 x.2.1 x.2.2 er).2,q4,F7 _ hlo.1];exact hx
   .rw[AI hx]at d;obtain⟨q1,q2,q3⟩:=GM h ht hc (φ:=λ_=>0) d (λp e v q=>(hres p e v q).1) (λx=> .inl ⟨_,rfl,rfl,rfl⟩) (by simp[h16]) (λ_=>rfl) λe=>by cases e
    refine⟨q1,.inl q2,λu hu=>?_,λq=>?_⟩
    .obtain⟨g1,g2,g3⟩:=q3 u hu;refine⟨g1,g3,by rw[g2,g1];exact hx,?_⟩;rcases d.Ba with⟨_,e,_⟩|⟨_,e,e2,_⟩|⟨L1,L2,K2,l1,x,e,_,e3,e4⟩
     .rw[e]at hu;cases hu
     .rw[e,Bq]at hu;subst hu;exact e2
     .rw[e,(e4.BV).2.1,Bq]at hu;subst hu;exact(GW b lo _).some e3
    .cases er:c.res with
     |none=>exact absurd er q
     |some x=>
      obtain⟨r1,r2⟩:=hres x.1 x.2.1 x.2.2 er;rcases d.Ba with⟨_,_,e⟩|⟨_,_,_,_,_,e⟩|⟨L1,L2,K2,l1,y,_,_,e3,e4⟩
      .exact absurd r1 (e _)
      .exact absurd r1 (e _)
      .rw[r2,F7 _ hlo.1,e4.BV.2.2.2];have e3':Path (oY b lo (AN AH w i).2.2) c.loc L1 (.ret y) l1:=e3;rcases Rs hlo e3' with⟨_,g⟩|⟨_,_,_,⟨_,g⟩|⟨_,_,_,⟨_,_,g⟩|⟨_,_,_,_,_,g⟩⟩⟩
       .exact absurd rfl (g y)
       .exact absurd rfl (g y)
       .exact(g y rfl).1
       .exact(g y rfl).1
 have rd:∀(i:tyN) (c:GC) (K:List Ch),(W r)[i]?=some (c,K)->(AN AH r i).1≠16->c.fine/\JZ AH H.length r i c K/\∀u,u∈K->u.a=(1,b,0):=λi c K hm h16=>by
  obtain⟨ht,hc,o',l',d,hres⟩:=w3 r i c K hm;unfold qP FH at d;rw[AI h16,Fi rfl,AK rfl]at d;obtain⟨q1,q2,q3⟩:=GM h ht hc (φ:=id) d (λp e v q=>(hres p e v q).1) (λx=> .inl ⟨_,rfl,rfl,rfl⟩) (by simp[h16]) (λe=>absurd rfl e) λ_ x=>rfl
  exact⟨q1,q2,λu hu=>(q3 u hu).1⟩
 have noW:∀t i,t≠w->(AN AH t i).1=16->qP b lo w r t (AN AH t i)= .ret (9,0):=λt i ht h16=>by unfold qP FH;rw[AK h16,DF ht];rfl
 have pB:∀t i,t≠r->(AN AH t i).1≠16->qP b lo w r t (AN AH t i)= .ret (9,0):=λt i ht h16=>by unfold qP FH;rw[AI h16,DF ht];rfl
 have cur:=dS h hw (w1 w hw) (LO:=lo) λi c K hm hne=>by
  by_cases h16:(AN AH w i).1=16
  .obtain⟨g1,_,_,g4⟩:=wr i c K hm h16;rw[AK (by unfold Y9;rw[Fh,GC.Hu,decide_eq_true_iff];exact⟨g1,h16⟩)];exact g4 hne
  .rw[AI (by unfold Y9;rw[Fh,decide_eq_true_iff];exact λq=>h16 q.2)];exact(no w i c K hm (pB w i hwr h16)).2.2 hne
 have hone:∀t,t≠w->t≠r->(W t).flatMap Prod.snd=[]:=λt h1 h2=>by
  refine tZ.2 λz hz=>?_
  obtain⟨i,hi,ei⟩:=Dj hz;obtain⟨c,K⟩:=z;refine(no t i c K (by rw[gG hi,ei]) ?_).2.1;by_cases h16:(AN AH t i).1=16
  .exact noW t i h1 h16
  .exact pB t i h2 h16
 have hwk:∀u,u∈(W w).flatMap Prod.snd->(u.a.1=2/\(u.a.2.2=0\/u.a.2.2=1)/\Ac u.l lo≠u.a.2.2/\u.a.2.1=b/\u.its≠[])/\u.fb<=u.e H.length:=λu hu=>by
  obtain⟨i,c,K,hm,hK⟩:=of_flat hu;by_cases h16:(AN AH w i).1=16
  .obtain⟨_,_,q,_⟩:=wr i c K hm h16;obtain⟨g1,g2,g3,g4⟩:=q u hK;refine⟨⟨by rw[g1],?_,g3,by rw[g1],g4⟩,g2⟩;rw[g1];exact hv w i h16
  .rw[(no w i c K hm (pB w i hwr h16)).2.1]at hK;cases hK
 have QG:∀u,u∈(W r).flatMap Prod.snd->u.a.1=1:=λu hu=>by
  obtain⟨i,c,K,hm,hK⟩:=of_flat hu;by_cases h16:(AN AH r i).1=16
  .rw[(no r i c K hm (noW r i hwr.symm h16)).2.1]at hK;cases hK
  .obtain⟨_,_,q⟩:=rd i c K hm h16;rw[q u hK]
 have sf:∀c,b<=c->c<b+3->GH (IW AH C) H.length c 1:=λc q1 q2=>h.Oe hF (hs c q1 q2).1 (hs c q1 q2).2
 obtain⟨f,hf⟩:=Tt hlo hU (λi q1 q2=>⟨q1,q2⟩) (λc _ _=>trivial) hwr hone (λu hu=>(hwk u hu).1) QG (sf b J J) (sf (b+1) J J) (sf (b+2) J J)
 have hrr:∀t,t≠w->∀p q x,B6 H.length ((W t).flatMap Prod.snd) p q x->t=r:=λt EW p q x ⟨u,u1,_⟩=>by
  refine TR λhtr=>?_
  rw[hone t EW htr]at u1;cases u1
 have hf2:SW (((W w).flatMap Prod.snd).map (Ch.wr H.length)) (λp q x=> ∃t,t≠w/\B6 H.length ((W t).flatMap Prod.snd) p q x) f:=by
  have e:(λp q x=> ∃t,t≠w/\B6 H.length ((W t).flatMap Prod.snd) p q x)=B6 H.length ((W r).flatMap Prod.snd):=by
   funext p q x
   refine propext ⟨λ⟨t,h1,h2⟩=>?_,λh2=>⟨r,hwr.symm,h2⟩⟩;rw[hrr t h1 p q x h2]at h2;exact h2
  rw[e];exact hf
 refine VS h hw w1 w2 hf2 (λt _=>(hU.uses t).rd (GW b lo)) (λt t' p q x q' x' h1 h2 h3 h4=>by rw[hrr t h1 _ _ _ h3,hrr t' h2 _ _ _ h4]) (λi c K hm=>?_) (λt i c K ht EW hm=>?_) λu hu=>(hwk u hu).2
 .by_cases h16:(AN AH w i).1=16
  .obtain⟨g1,g2,_⟩:=wr i c K hm h16;rw[cur i c K hm]at g2;exact .inr (.inl ⟨g1,h16,g2⟩)
  .have:=no w i c K hm (pB w i hwr h16);exact .inl ⟨this.1,this.2.1⟩
 .by_cases h16:(AN AH t i).1=16
  .have:=no t i c K hm (noW t i EW h16);exact .inl ⟨this.1,this.2.1⟩
  .by_cases htr:t=r
   .subst htr;exact .inr ⟨(rd i c K hm h16).1,h16,(rd i c K hm h16).2.1⟩
   .have:=no t i c K hm (pB t i htr h16);exact .inl ⟨this.1,this.2.1⟩
end
section
open Go.RowKit
def R3 (b lo:tyI)(a:AD):Op Int:=if a.1=1 then .ask (1,b,0) .ret else .get lo λx=>if x=a.2.2 then .ret 0 else .ask (2,b,a.2.2) λ_=> .set lo a.2.2 (.ret 0)
theorem Uy(hlo:0<=lo/\lo<32768){a:AD}{o:Op Int}(h:Path (R3 b lo a) l L o l'):
  (a.1=1/\l'=l/\((L=[]/\∀x,o≠ .ret x)\/∃p e x,L=[.acc (1,b,0) p e x]/\o= .ret x))\/
  (a.1≠1/\((L=[]/\∀x,o≠ .ret x)\/(L=[]/\Ac l lo=a.2.2/\l'=l)\/(Ac l lo≠a.2.2/\∃p e x,L=[.acc (2,b,a.2.2) p e x]/\∀x,o= .ret x->Ac l' lo=a.2.2))):=by
 unfold R3 at h;by_cases h1:a.1=1
 .rw[AK h1]at h
  left
  rcases h.Ba with⟨e1,e2,e3⟩|⟨p,e,x,L',e1,h⟩
  .exact⟨h1,e3,.inl ⟨e1,λx q=>by rw[e2]at q;cases q⟩⟩
  .obtain⟨q1,q2,q3⟩:=h.BV;exact⟨h1,q3,.inr ⟨p,e,x,by rw[e1,q1],q2⟩⟩
 .rw[AI h1]at h
  right
  refine⟨h1,?_⟩;rcases h.Rw with h|h
  .exact .inl h
  .by_cases hx:Ac l lo=a.2.2
   .rw[AK hx]at h;obtain⟨q1,q2,q3⟩:=h.BV;exact .inr (.inl ⟨q1,hx,q3⟩)
   .rw[AI hx]at h;rcases h.Ba with⟨e1,e2,e3⟩|⟨p,e,x,L',e1,h⟩
    .exact .inl ⟨e1,λx q=>by rw[e2]at q;cases q⟩
    .refine .inr (.inr ⟨hx,p,e,x,?_⟩);rcases h.Nf with⟨q1,q2⟩|h
     .exact⟨by rw[e1,q1],λx q=>absurd q (q2 x)⟩
     .obtain⟨q1,q2,q3⟩:=h.BV;exact⟨by rw[e1,q1],λ_ _=>by rw[q3,CG _ _ _ _ hlo,AK rfl]⟩
def KY (u:Ch):WR:=⟨u.a.2.2,u.fb,AM u.lo u.its⟩
def qg (u:Ch):Bool:=decide (u.a.1≠1)
def Ib (U:List Ch):List (WR×Bool):=(U.filter qg).map λu=>(KY u,!u.its.isEmpty)
theorem ZM(u:Ch)(h:Seq u.lo u.its):u.fb<=AM u.lo u.its:=by
 unfold Ch.fb;cases hi:u.its with
 |nil=>exact A9 _
 |cons it L=>
  rw[hi]at h;cases it with
  |note q p=>exact Seq.A7 (L:=L) h.2
  |acc a b e x=>exact DB (BP h.2.1) (Seq.A7 (L:=L) h.2.2)
theorem Bk.line{f:AD->Op Int}{rg:Int->Prop}{N:tyN}:∀{U:List Ch} {lo:tyN} {σ:Int->Int},Bk f rg N lo σ U->(∀u,u∈U->lo<=u.fb/\u.fb<=AM u.lo u.its)/\U.Pairwise λu v=>AM u.lo u.its<=v.fb
 |[],lo,σ,h=>⟨λu hu=>(by cases hu),.nil⟩
 |u::U,lo,σ,h=>by
  obtain⟨h1,h2,h3,h4,h5,h6,h7⟩:=h;obtain⟨g1,g2⟩:=Bk.line h7;have hb:=ss u h2;have hl:=ZM u h2;refine⟨λv hv=>?_,.cons (λv hv=>(g1 v hv).1) g2⟩;rcases BJ.1 hv with rfl|hv
  .exact⟨J,hl⟩
  .have:=g1 v hv;exact⟨J,this.2⟩
theorem kZ{U:List Ch}(h:U.Pairwise λu v=>AM u.lo u.its<=v.fb):∀(j k:tyN) (s w:WR×Bool),j<k->(Ib U)[j]?=some s->(Ib U)[k]?=some w->s.1.e<=w.1.b:=λj k s w hjk hs hw=>by
 have h2:(Ib U).Pairwise λs w=>s.1.e<=w.1.b:=List.pairwise_map.2 ((h.filter qg).imp λq=>q)
 have hj:=Be.1 hs;have hk:=Be.1 hw;have:=jh.1 h2 j k hj.1 hk.1 hjk;rw[hj.2,hk.2]at this;exact this
theorem Qc{b lo:tyI}(hlo:0<=lo/\lo<32768){rg:Int->Prop}(hrg:rg lo){N:tyN}:∀(U:List Ch) {at':tyN} {σ:Int->Int} (c:tyN),Bk (R3 b lo) rg N at' σ U->(∀u,u∈U->u.a.1≠1->u.a.2.2=0\/u.a.2.2=1)->(∀u,u∈U->u.its=[]->u.res≠none)->c<2->σ lo=(c:tyI)->
  EU b U=((Ib U).filter (·.2)).map (·.1)/\(∀k r,(EU b U)[k]?=some r->r.v=(((c+1+k)%2:tyN):tyI))/\∀k r,(Ib U)[k]?=some (r,false)->r.v=if k=0 then(c:tyI)else(((Ib U).map (·.1)).getD (k-1) ⟨0,0,0⟩).v
 |[],at',σ,c,h,hv,hn,hc,hσ=>⟨rfl,λk r q=>by simp[EU]at q,λk r q=>by simp[Ib]at q⟩
 |u::U,at',σ,c,h,hv,hn,hc,hσ=>by
  obtain⟨h1,h2,h3,h4,⟨o,h5,h5'⟩,h6,h7⟩:=h;have hl:Ac u.l lo=(c:tyI):=(h4 lo hrg).trans hσ;have hvU:∀w,w∈U->w.a.1≠1->w.a.2.2=0\/w.a.2.2=1:=λw hw=>hv w (.tail _ hw)
  have hnU:∀w,w∈U->w.its=[]->w.res≠none:=λw hw=>hn w (.tail _ hw)
  rcases Uy hlo h5 with⟨e1,e2,e3⟩|⟨e1,e3⟩
  .have hf:u.its.filterMap (QC b)=[]:=by
    rcases e3 with⟨q,_⟩|⟨p,e,x,q,_⟩
    .rw[q];rfl
    .rw[q];show List.filterMap _ [_]=[];rw[Dh,Fv];rfl
   have hp:Ib (u::U)=Ib U:=by unfold Ib;rw[FY (by unfold qg;simp[e1])]
   obtain⟨g1,g2,g3⟩:=Qc hlo hrg U c h7 hvU hnU hc (by rw[e2];exact hl);rw[Fl,hf,PL,hp];exact⟨g1,g2,g3⟩
  .have hP:Ib (u::U)=(KY u,!u.its.isEmpty)::Ib U:=by unfold Ib;rw[I2 (by unfold qg;simp[e1])];rfl
   have silent:u.its=[]->Ac u.l lo=u.a.2.2/\u.l'=u.l:=λq=>by
    rcases e3 with⟨_,g⟩|⟨_,g⟩|⟨_,p,e,x,g,_⟩
    .cases er:u.res with
     |none=>exact absurd er (hn u (.head _) q)
     |some x=>exact absurd (h5' x er) (g x)
    .exact g
    .rw[q]at g;cases g
   rw[hP,Fl];by_cases hi:u.its=[]
   .obtain⟨s1,s2⟩:=silent hi;obtain⟨g1,g2,g3⟩:=Qc hlo hrg U c h7 hvU hnU hc (by rw[s2];exact hl);rw[hi];refine⟨?_,g2,λk r q=>?_⟩
    .show EU b U=_;rw[g1];rfl
    .cases k with
     |zero=>
      have:(KY u,false)=(r,false):=by simpa using q
      cases this
      rw[AK rfl];exact s1.symm.trans hl
     |succ k=>
      have q':(Ib U)[k]?=some (r,false):=by simpa using q
      rw[g3 k r q',AI (Tz k)];cases k with
      |zero=>rw[AK rfl];exact hl.symm.trans s1
      |succ k=>rw[AI (Tz k)];rfl
   .have Gw:Ac u.l lo≠u.a.2.2/\∃p e x,u.its=[.acc (2,b,u.a.2.2) p e x]/\∀x,o= .ret x->Ac u.l' lo=u.a.2.2:=by
     rcases e3 with⟨g,_⟩|⟨g,_⟩|g
     .exact absurd g hi
     .exact absurd g hi
     .exact g
    obtain⟨k1,p,e,x,k2,k3⟩:=Gw;have hv01:=hv u (.head _) e1;have hval:u.a.2.2=(((c+1)%2:tyN):tyI):=by rw[hl]at k1;omega
    have hrow:u.its.filterMap (QC b)=[KY u]:=by
     unfold KY Ch.fb;rw[k2];show List.filterMap _ [_]=_;rw[Dh,No,AK rfl];rfl
    have hne:(!u.its.isEmpty)=true:=by rw[k2];rfl
    rw[hrow,hne]
    have rest:U=[]\/∃y,u.res=some y:=by
     cases er:u.res with
     |none=>exact .inl (h6 er)
     |some y=>exact .inr ⟨y,rfl⟩
    have tail:EU b U=((Ib U).filter (·.2)).map (·.1)/\(∀k r,(EU b U)[k]?=some r->r.v=((((c+1)%2+1+k)%2:tyN):tyI))/\∀k r,(Ib U)[k]?=some (r,false)->r.v=if k=0 then(((c+1)%2:tyN):tyI)else(((Ib U).map (·.1)).getD (k-1) ⟨0,0,0⟩).v:=by
     rcases rest with rfl|⟨y,hy⟩
     .exact⟨rfl,λk r q=>by simp[EU]at q,λk r q=>by simp[Ib]at q⟩
     .exact Qc hlo hrg U ((c+1)%2) h7 hvU hnU J (by rw[k3 y (h5' y hy),hval])
    obtain⟨g1,g2,g3⟩:=tail;refine⟨?_,λk r q=>?_,λk r q=>?_⟩
    .rw[g1,I2 (by rfl)];rfl
    .cases k with
     |zero=>simp at q;subst q;exact hval
     |succ k=>
      have q':(EU b U)[k]?=some r:=by simpa using q
      rw[g2 k r q'];omega
    .cases k with
     |zero=>simp at q
     |succ k=>
      have q':(Ib U)[k]?=some (r,false):=by simpa using q
      rw[g3 k r q',AI (Tz k)];cases k with
      |zero=>rw[AK rfl];exact hval.symm
      |succ k=>rw[AI (Tz k)];rfl
structure ur (P:List WR)(b e:tyN)(x:tyI)(m:tyN):Prop where
 le:m<=P.length
 val:x=EI P m
 ahead:∀k r,P[k]?=some r->k<m->r.b<e
 behind:∀k r,P[k]?=some r->r.e<b->k<m
theorem RF(hlo:0<=lo/\lo<32768){A:Nat->AD->Nat->Nat->Int->Prop}{N:tyN}{cells rg:Int->Prop}{U:Nat->List Ch}(h:Wu (R3 b lo) A N cells rg U)(hrg:rg lo)(hc:cells b)(hw:∀t u,u∈U t->u.a.1≠1->t=w/\(u.a.2.2=0\/u.a.2.2=1))(hn:∀t u,u∈U t->u.its=[]->u.res≠none)(hs:GH A N b 1):
  ∀(t:tyN) (u:Ch) (x:tyI),u∈U t->u.a.1=1->u.res=some x->u.e N<N->u.fb<u.e N/\∃m,ur ((Ib (U w)).map (·.1)) u.fb (u.e N) x m:=by
 obtain⟨g1,g2,g3⟩:=Qc hlo hrg (U w) 0 (h.uses w) (λu hu h1=>(hw w u hu h1).2) (hn w) J rfl
 have hb:=h.bit hc hs (w:=w) λt u hu v b' e x hm=>by
  obtain⟨_,_,o,hp,_⟩:=(h.uses t).mem u hu;rcases Uy hlo hp with⟨_,_,q⟩|⟨q1,q⟩
  .rcases q with⟨q,_⟩|⟨p,e',x',q,_⟩
   .rw[q]at hm;cases hm
   .rw[q,Bq]at hm;cases hm
  .rcases q with⟨q,_⟩|⟨q,_⟩|⟨_,p,e',x',q,_⟩
   .rw[q]at hm;cases hm
   .rw[q]at hm;cases hm
   .rw[q,Bq]at hm;cases hm;have:=hw t u hu q1;exact⟨this.1,J⟩
 obtain⟨l1,l2⟩:=(h.uses w).line;intro t u x hu hu1 hx he;obtain⟨_,_,o,hp,ho⟩:=(h.uses t).mem u hu;have hue:u.e N=AM u.lo u.its:=by unfold Ch.e;rw[hx]
 have hit:u.its=[.acc (1,b,0) u.fb (u.e N) x]:=by
  rcases Uy hlo hp with⟨_,_,q⟩|⟨q,_⟩
  .rcases q with⟨_,q⟩|⟨p,e,y,q1,q2⟩
   .exact absurd (ho x hx) (q x)
   .have:=(ho x hx).symm.trans q2;cases this
    rw[hue];unfold Ch.fb;rw[q1];rfl
  .exact absurd hu1 q
 have hm:TL b (U t) u.fb (u.e N) x:=⟨u,hu,by rw[hit];exact .head _⟩
 have hbe:u.fb<u.e N:=by
  have hs':=((h.uses t).mem u hu).1;rw[hit]at hs';exact hs'.2.1
 have hC:ZX N (EU b (U w)) (TL b (U t)):=⟨λb' e x q1 q2=>(hb t b' e x q1 q2).1,λb' e x q1 q2=>by have:=(hb t b' e x q1 q2).2.1;omega,λb' e x q1 q2=>(hb t b' e x q1 q2).2.2⟩
 have par:∀k,k<=(EU b (U w)).length->EI (EU b (U w)) k=((k%2:tyN):tyI):=λk hk=>by
  cases k with
  |zero=>rfl
  |succ k=>
   have hr:(EU b (U w))[k]?=some (EU b (U w))[k]:=gG J;rw[Bz hr,g2 k _ hr];omega
 obtain⟨n,hidx⟩:=hC.idx (h.uses w).Qz (λr hr=>((h.uses w).Uf b r hr).2) par hm he hbe
 have hPe:∀r,r∈Ib (U w)->r.1.b<=r.1.e:=λr hr=>by
  obtain⟨v,hv,rfl⟩:=Cd.1 hr;exact(l1 v (Db.1 hv).1).2
 obtain⟨m,hm'⟩:=Ya (P:=Ib (U w)) (m:=n) hbe (kZ l2) hPe (by rw[<-g1];exact hidx.le) (by rw[<-g1];exact hidx.ahead) (by rw[<-g1];exact hidx.behind);refine⟨hbe,m,by rw[Ca];exact hm'.le,?_,λk r hk hlt=>?_,λk r hk hlt=>?_⟩
 .rw[cu m hm'.le λk r hk hr=>?_,hm'.Gw,<-g1,par n hidx.le]
  .exact hidx.val
  .rw[g3 k r hr];cases k with
   |zero=>rfl
   |succ k=>rw[AI (Tz k)];rfl
 .obtain⟨q,hq⟩:=Va hk;exact hm'.ahead k _ hq hlt
 .obtain⟨q,hq⟩:=Va hk;exact hm'.behind k _ hq hlt
structure UnR (top nC:tyN)(v p0 q:Nat->Nat)(Qg comp:Nat->Prop)(has:Nat->Nat->Prop)(pb pe:Nat->Nat->Nat)(i0 rB rE:tyN)(rb re:Nat->Nat)(up:Nat->Prop)(seen:Nat->Option Nat):Prop where
 few:∀i,Qg i->i<nC/\v i<=top
 put:∀i k,has i k->Qg i/\k<=v i/\p0 i<=pb i k
 all:∀i,Qg i->comp i->p0 i<q i/\∀k,k<=v i->has i k/\pe i k<q i
 down:∀i k k',has i k->k<k'->k'<=v i->has i k'/\pe i k'<=pb i k
 line:∀k k',k<k'->k'<=i0->re k<=rb k'
 span:∀k,k<=i0->rB<=rb k/\rb k<re k/\re k<rE
 tells:∀k,k<i0->¬up k
 last:i0<top->up i0
 s0:∀k,k<=i0->seen k=none->(up k↔k=0)/\∀j,has j k->¬pe j k<rb k
 s1:∀k i,k<=i0->seen k=some i->has i k/\pb i k<re k/\(up k↔k=v i)/\∀j,has j k->pe j k<rb k->j<=i
theorem UnR.found{top nC:tyN}{v p0 q:Nat->Nat}{Qg comp:Nat->Prop}{has:Nat->Nat->Prop}{pb pe:Nat->Nat->Nat}{i0 rB rE:tyN}{rb re:Nat->Nat}{up:Nat->Prop}{seen:Nat->Option Nat}(h:UnR top nC v p0 q Qg comp has pb pe i0 rB rE rb re up seen):
  (i0=0/\∀j,Qg j->¬(comp j/\q j<rB))\/∃i,Qg i/\v i=i0/\p0 i<rE/\∀j,i<j->Qg j->¬(comp j/\q j<rB):=by
 have chain:∀(d a s:tyN),i0-v s<=d->Qg s->p0 s<rE->(∀j,s<j->Qg j->¬(comp j/\q j<rB))->a<=i0->(∀k,a<=k->k<=v s->k<=i0->has s k/\pe s k<rb k)->a<=v s->∃i,Qg i/\v i=i0/\p0 i<rE/\∀j,i<j->Qg j->¬(comp j/\q j<rB):=λd=>by
  induction d with
  |zero=>
   intro a s hd hs hp hno ha hk hav;rcases CR i0 (v s)with g|g
   .obtain⟨k1,k2⟩:=hk i0 ha (BP g) (A9 _);have hup:=h.last (B5 g (h.few s hs).2);cases e:seen i0 with
    |none=>exact absurd k2 ((h.s0 i0 (A9 _) e).2 s k1)
    |some i=>
     obtain⟨m1,m2,m3,m4⟩:=h.s1 i0 i (A9 _) e;have hsi:=m4 s k1 k2;obtain⟨n1,n2,n3⟩:=h.put i i0 m1;have:=h.span i0 (A9 _);exact⟨i,n1,(m3.1 hup).symm,J,λj hj=>hno j J⟩
   .exact⟨s,hs,J,hp,hno⟩
  |succ d ih=>
   intro a s hd hs hp hno ha hk hav;rcases CR (v s) i0 with g|g
   .obtain⟨k1,k2⟩:=hk (v s) hav (A9 _) (BP g);have hdn:=h.tells (v s) g;cases e:seen (v s)with
    |none=>exact absurd k2 ((h.s0 _ (BP g) e).2 s k1)
    |some i=>
     obtain⟨m1,m2,m3,m4⟩:=h.s1 _ i (BP g) e;have hsi:=m4 s k1 k2;obtain⟨n1,n2,n3⟩:=h.put i _ m1;have hne:v s≠v i:=λq=>hdn (m3.2 q)
     have:=h.span (v s) (BP g);refine ih (v s+1) i J n1 J (λj hj=>hno j J) g (λk c1 c2 c3=>?_) J;obtain⟨d1,d2⟩:=h.down i (v s) k m1 c1 c2;have:=h.line (v s) k c1 c3;exact⟨d1,J⟩
   .exact ih a s J hs hp hno ha hk hav
 have hsp:=h.span 0 (DV _);by_cases hL:∃j,Qg j/\comp j/\q j<rB
 .have last:∀n,(∃j,Qg j/\(comp j/\q j<rB)/\nC<=j+n)->∃j,Qg j/\(comp j/\q j<rB)/\∀j',j<j'->Qg j'->¬(comp j'/\q j'<rB):=λn=>by
   induction n with
   |zero=>rintro⟨j,h1,_,h2⟩;have:=(h.few j h1).1;omega
   |succ n ih=>
    rintro⟨j,h1,h2,h3⟩;by_cases hm:∃j',j<j'/\Qg j'/\(comp j'/\q j'<rB)
    .obtain⟨j',g1,g2,g3⟩:=hm;exact ih ⟨j',g2,g3,J⟩
    .exact⟨j,h1,h2,λj' g1 g2 g3=>hm ⟨j',g1,g2,g3⟩⟩
  obtain⟨j,h1,h2,h3⟩:=hL;obtain⟨s,s1,s2,s3⟩:=last nC ⟨j,h1,⟨h2,h3⟩,J⟩;obtain⟨a1,a2⟩:=h.all s s1 s2.1;exact .inr (chain (i0-v s) 0 s (A9 _) s1 J s3 (DV _) (λk _ c2 c3=>⟨(a2 k c2).1,by have:=(a2 k c2).2;have:=(h.span k c3).1;omega⟩) (DV _))
 .have hno:∀j,Qg j->¬(comp j/\q j<rB):=λj h1 h2=>hL ⟨j,h1,h2⟩
  by_cases h0:i0=0
  .exact .inl ⟨h0,hno⟩
  .right
   have hdn:=h.tells 0 J;cases e:seen 0 with
   |none=>exact absurd ((h.s0 0 (DV _) e).1.2 rfl) hdn
   |some i=>
    obtain⟨m1,m2,m3,m4⟩:=h.s1 0 i (DV _) e;obtain⟨n1,n2,n3⟩:=h.put i 0 m1;have hne:0≠v i:=λq=>hdn (m3.2 q)
    refine chain (i0-v i) 1 i (A9 _) n1 J (λj _=>hno j) J (λk c1 c2 c3=>?_) J;obtain⟨d1,d2⟩:=h.down i 0 k m1 J c2;have:=h.line 0 k J c3;exact⟨d1,J⟩
def Nj (L:List C6)(first:tyI)(r:C6):Nat->Int
 |0=>first
 |n+1=>if((L.getD n Ax).wr&&Bt (L.getD n Ax) r)=true then(L.getD n Ax).val else Nj L first r n
def Nm (L:List C6)(r:C6):Nat->List Int
 |0=>[]
 |n+1=>Nm L r n++if((L.getD n Ax).wr&& !Bt (L.getD n Ax) r&& !Bt r (L.getD n Ax))=true then[(L.getD n Ax).val]else[]
def mA (L:List C6)(first:tyI):Prop:= ∀i,i<L.length->(L.getD i Ax).wr=false->(L.getD i Ax).to≠ -1->(L.getD i Ax).val=Nj L first (L.getD i Ax) L.length\/(L.getD i Ax).val∈Nm L (L.getD i Ax) L.length
theorem Te{L:List C6}{first:tyI}{r:C6}:∀n,(∀k,k<n->(L.getD k Ax).wr=true->Bt (L.getD k Ax) r=false)->Nj L first r n=first
 |0,_=>rfl
 |n+1,h=>by
  unfold Nj;rw[AI (λq=>by rw[Fh]at q;rw[h n (I7 n) q.1]at q;cases q.2)];exact Te n λk hk=>h k J
theorem TX{L:List C6}{first:tyI}{r:C6}{m:tyN}(hw:(L.getD m Ax).wr=true)(ha:Bt (L.getD m Ax) r=true):∀n,m<n->(∀k,m<k->k<n->(L.getD k Ax).wr=true->Bt (L.getD k Ax) r=false)->Nj L first r n=(L.getD m Ax).val
 |0,h,_=>J
 |n+1,hm,h=>by
  unfold Nj;by_cases e:n=m
  .subst e;rw[AK (by rw[hw,ha];rfl)]
  .rw[AI (λq=>by rw[Fh]at q;rw[h n J (I7 n) q.1]at q;cases q.2)];exact TX hw ha n J λk hk hkn=>h k hk J
theorem Yj{L:List C6}{r:C6}{m:tyN}(hw:(L.getD m Ax).wr=true)(h1:Bt (L.getD m Ax) r=false)(h2:Bt r (L.getD m Ax)=false):∀n,m<n->(L.getD m Ax).val∈Nm L r n
 |0,h=>J
 |n+1,hm=>by
  unfold Nm;by_cases e:n=m
  .subst e;rw[AK (by rw[hw,h1,h2];rfl)];exact LF _ (.head _)
  .exact P3 _ (Yj hw h1 h2 n J)
structure Ze (AH:List (List CD))(C:Nat->List GC)(w:tyN):Prop where
 wr:∀(t i:tyN) (c:GC),t<AH.length->(C t)[i]?=some c->c.fine->(AN AH t i).1=16->t=w
 rd:∀(t i:tyN) (c:GC) (p:tyN) (e v:tyI),t<AH.length->(C t)[i]?=some c->c.fine->(AN AH t i).1≠16->c.res=some (p,e,v)->
  (v=0/\∀(j:tyN) (d:GC) (p':tyN) (e' v':tyI),(C w)[j]?=some d->d.fine->(AN AH w j).1=16->d.res=some (p',e',v')->¬p'<c.p0)\/
  ∃(j:tyN) (d:GC),(C w)[j]?=some d/\d.fine/\(AN AH w j).1=16/\v=(AN AH w j).2.2/\d.p0<p/\∀(j':tyN) (d':GC) (p':tyN) (e' v':tyI),j<j'->(C w)[j']?=some d'->d'.fine->(AN AH w j').1=16->d'.res=some (p',e',v')->¬p'<c.p0
variable {M:MD}{AH:List (List CD)}{H:List Au}{C:Nat->List GC}{L:List C6}{ix:Nat->Nat×Nat}
theorem dQ.wr(hH:dQ AH H C L ix){k:tyN}(hk:k<L.length):(L.getD k Ax).wr=true↔(AN AH (ix k).1 (ix k).2).1=16:=by
 obtain⟨_,c,_,_,c3⟩:=hH.at' k hk;rw[c3];unfold opC;simp
theorem Ze.own(hR:Ze AH C w)(hH:dQ AH H C L ix){k:tyN}(hk:k<L.length)(hw:(L.getD k Ax).wr=true):(L.getD k Ax).LD=(w:tyI):=by
 obtain⟨t,c,c1,c2,c3⟩:=hH.at' k hk;have:=hR.wr _ _ c t c1 c2 ((hH.wr hk).1 hw);rw[c3,<-this];rfl
theorem Ze.zu(hw:w<AH.length)(hR:Ze AH C w)(hH:dQ AH H C L ix)(h:CC M AH H C)(hF:Si H):mA L 0:=λi hi QI hto=>by
 obtain⟨t,c,c1,c2,c3⟩:=hH.at' i hi;have h16:(AN AH (ix i).1 (ix i).2).1≠16:=λq=>by rw[(hH.wr hi).2 q]at QI;cases QI
 cases er:c.res with
 |none=>rw[c3]at hto;unfold opC at hto;rw[er]at hto;exact absurd rfl hto
 |some r=>
  obtain⟨p,e,v⟩:=r;have hval:(L.getD i Ax).val=v:=by rw[c3];unfold opC;rw[AI h16,er]
  have ahd:∀k,k<L.length->(L.getD k Ax).wr=true->Bt (L.getD k Ax) (L.getD i Ax)=true->∃j d p' e' v',ix k=(w,j)/\(C w)[j]?=some d/\d.fine/\(AN AH w j).1=16/\d.res=some (p',e',v')/\p'<c.p0:=λk hk hwk ha=>by
   obtain⟨tk,d,d1,d2,d3⟩:=hH.at' k hk;have yJ:=(hH.wr hk).1 hwk;have EW:=hR.wr _ _ d tk d1 d2 yJ;obtain⟨p',e',v',q1,q2⟩:=(hH.ahead h hF hk hi d1 c1).1 ha;rw[EW]at d1 yJ;exact⟨(ix k).2,d,p',e',v',ey EW rfl,d1,d2,yJ,q1,q2⟩
  rw[hval];rcases hR.rd _ _ c p e v t c1 c2 h16 er with⟨q1,q2⟩|⟨j,d,d1,d2,d3,d4,d5,d6⟩
  .left
   rw[q1,Te L.length λk hk hwk=>?_];cases ha:Bt (L.getD k Ax) (L.getD i Ax)with
   |false=>rfl
   |true=>
    obtain⟨j,d,p',e',v',_,g1,g2,g3,g4,g5⟩:=ahd k hk hwk ha;exact absurd g5 (q2 j d p' e' v' g1 g2 g3 g4)
  .obtain⟨m,m1,m2⟩:=hH.all w j d hw d1 d2;have xr:(L.getD m Ax).wr=true:=(hH.wr m1).2 (by rw[m2];exact d3)
   have hmv:(L.getD m Ax).val=v:=by
    obtain⟨_,d',e1,_,e3⟩:=hH.at' m m1;rw[e3,m2];unfold opC;dsimp only;rw[AK d3,d4]
   have hmd:(C (ix m).1)[(ix m).2]?=some d:=by rw[m2];exact d1
   cases ha:Bt (L.getD m Ax) (L.getD i Ax)with
   |true=>
    left
    rw[TX xr ha L.length m1 λk hk hkl hwk=>?_,hmv];cases hb:Bt (L.getD k Ax) (L.getD i Ax)with
    |false=>rfl
    |true=>
     obtain⟨j',d',p',e',v',g0,g1,g2,g3,g4,g5⟩:=ahd k hkl hwk hb;have hlt:=hH.mono m k d d' hk hkl hmd (by rw[g0];exact g1)
     have hjj:j<j':=by
      rcases Fq j j' with q|q|q
      .exact q
      .subst q;rw[d1]at g1;cases g1;omega
      .obtain⟨p2,e2,v2,r1,r2⟩:=h.calls hw q g1 d1;have:=(h.GI hw g1 r1).1;omega
     exact absurd g5 (d6 j' d' p' e' v' hjj g1 g2 g3 g4)
   |false=>
    right
    rw[<-hmv];refine Yj xr ha ?_ L.length m1;cases hb:Bt (L.getD i Ax) (L.getD m Ax)with
    |false=>rfl
    |true=>
     obtain⟨p',e',v',q1,q2⟩:=(hH.ahead h hF hi m1 c1 hmd).1 hb;rw[er]at q1;cases q1;omega
end
section
open Go.RowKit
theorem DE.begun{α:Type}{f:AD->Op Int}{o o':Op α}{lo:tyN}{K:List Ch}(h:DE f o l lo L K o' l'):∀u,u∈K->u.its=[]->u.res≠none:=by
 induction h with
 |nil=>intro u hu;cases hu
 |get _ ih=>exact ih
 |set _ ih=>exact ih
 |live _ ih=>exact ih
 |note p _ ih=>exact ih
 |ask h1 _ ih=>
  intro u hu;rcases BJ.1 hu with rfl|hu
  .exact λ_ e=>by cases e
  .exact ih u hu
 |stop h1 hn h0=>
  intro u hu;rw[Bq]at hu;subst hu;exact λq=>absurd q h0
theorem YD{β:Type}:∀(W:List (β×List Ch)),Ib (W.flatMap Prod.snd)=W.flatMap λz=>Ib z.2
 |[]=>rfl
 |z::W=>by
  rw[It,It,<-YD W];unfold Ib;rw[IV,Gu]
variable {M:MD}{AH:List (List CD)}{H:List Au}{C:Nat->List GC}
def zt (b:tyI)(w t:tyN):CD->Op RD:=FH true (decide (t=w)) (XQ b) λv=> .ask (2,b,CT v) λ_=> .ret (0,0)
theorem Uo(h:CC M AH H C)(hA:Sx M AH C)(hF:EE M)(hlo:0<=lo/\lo<32768)(hw:w<AH.length)(hP:∀t c,M.P t c=(zt b w t c).sub (R3 b lo))(hs:RP M b 1)(hv:∀t i,(AN AH t i).1=16->(AN AH t i).2.2=0\/(AN AH t i).2.2=1):Ze AH C w:=by
 have hroot:∀a x,R3 b lo a≠ .ret x:=λa x e=>by
  unfold R3 at e;split at e<;>cases e
 obtain⟨W,w1,w2,w3,hU⟩:=h.reg (g:=λ_=>R3 b lo) (T:=zt b w) (λ_=>hroot) hP (rg:=λi=>i=lo) (λi hi=>J) λt c i _=>by
  refine GA ?_ ?_ c
  .exact λ_=>trivial
  .exact λv _=>trivial
 have at':∀(t i:tyN) (c:GC),t<AH.length->(C t)[i]?=some c->∃K,(W t)[i]?=some (c,K):=λt i c ht hc=>by
  rw[<-w1 t ht,BY]at hc;cases e:(W t)[i]? with
  |none=>rw[e]at hc;cases hc
  |some z=>rw[e]at hc;cases hc;exact⟨z.2,rfl⟩
 have no:∀(t i:tyN) (c:GC) (K:List Ch),(W t)[i]?=some (c,K)->t≠w->(AN AH t i).1=16->¬c.fine/\K=[]:=λt i c K hm EW h16=>by
  obtain⟨ht,hc,o',l',d,hres⟩:=w3 t i c K hm;exact LU hA ht hc (hP t) (v:=(9,0)) (by unfold zt FH;rw[AK h16,DF EW];rfl) AQ d λp e v q=>(hres p e v q).1
 have wr:∀(i:tyN) (c:GC) (K:List Ch),(W w)[i]?=some (c,K)->(AN AH w i).1=16->c.fine/\JZ AH H.length w i c K/\∀u,u∈K->u.a=(2,b,(AN AH w i).2.2):=λi c K hm h16=>by
  obtain⟨ht,hc,o',l',d,hres⟩:=w3 w i c K hm;unfold zt FH at d;rw[AK h16,Fi rfl,AK rfl]at d;dsimp only at d;rw[show CT (AN AH w i).2.2=(AN AH w i).2.2 by rcases hv w i h16 with e|e<;>rw[e]<;>rfl]at d;obtain⟨q1,q2,q3⟩:=GM h ht hc (φ:=λ_=>0) d (λp e v q=>(hres p e v q).1) (λx=> .inl ⟨_,rfl,rfl,rfl⟩) (by simp[h16]) (λ_=>rfl) λe=>by cases e
  exact⟨q1,q2,λu hu=>(q3 u hu).1⟩
 have rd:∀(t i:tyN) (c:GC) (K:List Ch),(W t)[i]?=some (c,K)->(AN AH t i).1≠16->c.fine/\JZ AH H.length t i c K/\∀u,u∈K->u.a=(1,b,0):=λt i c K hm h16=>by
  obtain⟨ht,hc,o',l',d,hres⟩:=w3 t i c K hm;unfold zt FH at d;rw[AI h16,AK rfl]at d;obtain⟨q1,q2,q3⟩:=GM h ht hc (φ:=id) d (λp e v q=>(hres p e v q).1) (λx=> .inl ⟨_,rfl,rfl,rfl⟩) (by simp[h16]) (λe=>absurd rfl e) λ_ x=>rfl
  exact⟨q1,q2,λu hu=>(q3 u hu).1⟩
 have hst:=RF hlo hU rfl trivial (w:=w) (λt u hu h1=>by
  obtain⟨i,c,K,hm,hK⟩:=of_flat hu;by_cases h16:(AN AH t i).1=16
  .by_cases EW:t=w
   .subst EW;refine⟨rfl,?_⟩;rw[(wr i c K hm h16).2.2 u hK];exact hv t i h16
   .rw[(no t i c K hm EW h16).2]at hK;cases hK
  .rw[(rd t i c K hm h16).2.2 u hK]at h1;exact absurd rfl h1) (λt u hu=>by
  obtain⟨i,c,K,hm,hK⟩:=of_flat hu;obtain⟨_,_,_,_,d,_⟩:=w3 t i c K hm
  exact d.begun u hK) (h.Oe hF hs.1 hs.2)
 rw[YD]at hst;obtain⟨F,zd⟩:∃F:GC×List Ch->List (WR×Bool),F=λz=>Ib z.2:=⟨_,rfl⟩
 rw[<-zd]at hst
 have row:∀(i:tyN) (c:GC) (K:List Ch),(W w)[i]?=some (c,K)->(F (c,K)=[])\/∃u,K=[u]/\(AN AH w i).1=16/\F (c,K)=[(KY u,!u.its.isEmpty)]:=λi c K hm=>by
  rw[zd];by_cases h16:(AN AH w i).1=16
  .obtain⟨_,q2,q3⟩:=wr i c K hm h16;rcases q2 with⟨q,_⟩|⟨u,q,_⟩
   .left;subst q;rfl
   .subst q;refine .inr ⟨u,rfl,h16,?_⟩;show Ib [u]=_;unfold Ib;rw[I2 (by unfold qg;rw[q3 u (.head _)];rfl)];rfl
  .left
   obtain⟨_,q2,q3⟩:=rd w i c K hm h16;rcases q2 with⟨q,_⟩|⟨u,q,_⟩
   .subst q;rfl
   .subst q;show Ib [u]=_;unfold Ib;rw[FY (by unfold qg;rw[q3 u (.head _)];simp)];rfl
 refine⟨λt i c ht hc hf h16=>?_,λt i c p e v ht hc hf h16 hr=>?_⟩
 .refine TR λEW=>?_
  obtain⟨K,hm⟩:=at' t i c ht hc;exact(no t i c K hm EW h16).1 hf
 .obtain⟨K,hm⟩:=at' t i c ht hc;obtain⟨_,q2,q3⟩:=rd t i c K hm h16;rcases q2 with⟨_,q⟩|⟨u,q,k1,k2,_,k4⟩
  .rw[hr]at q;cases q
  .subst q;obtain⟨r1,r2,x,r3,r4⟩:=k4 p e v hr;have hu1:u.a.1=1:=by rw[q3 u (.head _)]
   have hvx:=r4 hu1;subst hvx;obtain⟨_,m,hm1,hm2,hm3,hm4⟩:=hst t u v (FZ.2 ⟨_,BI hm,.head _⟩) hu1 r3 J
   have ahd:∀(j:tyN) (d:GC) (p':tyN) (e' v':tyI),(C w)[j]?=some d->(AN AH w j).1=16->d.res=some (p',e',v')->p'<c.p0->Kh F (W w) j<m/\∃K,(W w)[j]?=some (d,K)/\∃r,F (d,K)=[r]:=λj d p' e' v' hd oK hdr hlt=>by
    obtain⟨K',hm'⟩:=at' w j d hw hd;obtain⟨_,g2,g3⟩:=wr j d K' hm' oK;rcases g2 with⟨_,g⟩|⟨u',g,k1',k2',_,k4'⟩
    .rw[hdr]at g;cases g
    .subst g;obtain⟨s1,s2,x',s3,_⟩:=k4' p' e' v' hdr;rcases row j d [u'] hm' with g|⟨u2,g1,g2,g4⟩
     .rw[zd]at g;have:Ib [u']=[(KY u',!u'.its.isEmpty)]:=by unfold Ib;rw[I2 (by unfold qg;rw[g3 u' (.head _)];rfl)];rfl
      rw[show(λz:GC×List Ch=>Ib z.2) (d,[u'])=Ib [u']from rfl,this]at g;cases g
     .cases g1
      have hrow:=Lo (f:=F) hm' g4;refine⟨hm4 _ _ (GP hrow) ?_,_,hm',_,g4⟩;have:(KY u').e=u'.e H.length:=by unfold KY Ch.e;rw[s3]
      rw[this];omega
   cases m with
   |zero=>exact .inl ⟨hm2,λj d p' e' v' hd _ oK hdr hlt=>by have:=(ahd j d p' e' v' hd oK hdr hlt).1;omega⟩
   |succ k=>
    right
    rw[Ca]at hm1;obtain⟨r,hr'⟩:∃r,((W w).flatMap F)[k]?=some r:=⟨_,gG J⟩
    obtain⟨j,⟨d,K'⟩,g1,g2,g3⟩:=Lk (f:=F) (λz hz=>by
     obtain⟨j,hj,ej⟩:=Dj hz;rcases row j z.1 z.2 (by rw[gG hj,ej])with g|⟨u,_,_,g⟩
     .exact .inl g
     .exact .inr ⟨_,g⟩) hr'
    rcases row j d K' g1 with g|⟨u',g4,g5,g6⟩
    .rw[g2]at g;cases g
    .subst g4;rw[g2]at g6;cases g6;obtain⟨f1,f2,f3⟩:=wr j d [u'] g1 g5;obtain⟨_,hd,_⟩:=w3 w j d [u'] g1
     have hp0:d.p0<=u'.fb:=by
      rcases f2 with⟨q,_⟩|⟨u2,q,k1',_⟩
      .cases q
      .cases q;exact k1'
     have hah:=hm3 k _ (GP hr') (I7 k);refine⟨j,d,hd,f1,g5,?_,?_,λj' d' p' e' v' hjj hd' hf' oK hdr hlt=>?_⟩
     .rw[hm2,Bz (GP hr')];show u'.a.2.2=_;rw[f3 u' (.head _)]
     .have:(KY u').b=u'.fb:=rfl;dsimp only at hah;omega
     .have h1:=(ahd j' d' p' e' v' hd' oK hdr hlt).1;have h2:=KF (f:=F) g1 g2 hjj;omega
end
section
open Go.RowKit
def I8 (j:tyN)(up:Bool):Int:=if up=decide (j≠0)then 1 else 0
def Pk (j:tyN)(x:tyI):Bool:=decide (x=1) !=decide (j=0)
theorem qQ(j:tyN)(u:Bool):Pk j (I8 j u)=u:=by
 unfold Pk I8;by_cases h:j=0<;>cases u<;>simp[h]
theorem kX(j:tyN):Pk j 0=decide (j=0):=by unfold Pk;by_cases h:j=0<;>simp[h]
def YM (b:tyI):List (Nat×Bool)->Op RD
 |[]=> .ret (0,0)
 |p::l=> .ask (2,b+(p.1:tyI),I8 p.1 p.2) λ_=>YM b l
def Mn (v:tyN):List (Nat×Bool):=(v,true)::(List.range v).reverse.map λj=>(j,false)
def IF (b:tyI)(top:tyN):Nat->Nat->Op RD
 |0,_=> .ret (0,(top:tyI))
 |n+1,i=> .ask (1,b+(i:tyI),0) λx=>if Pk i x=true then .ret (0,(i:tyI))else IF b top n (i+1)
def RW (b lo:tyI)(a:AD):Op Int:=R3 a.2.1 (lo+(a.2.1-b)) a
def unO (b:tyI)(top w t:tyN):CD->Op RD:=FH true (decide (t=w)) (IF b top (top+1) 0) λv=>YM b (Mn v.toNat)
theorem lA(v:tyN):(Mn v).length=v+1:=by simp[Mn]
theorem pL{v m:tyN}(h:m<=v):(Mn v)[m]?=some (v-m,decide (m=0)):=by
 unfold Mn;cases m with
 |zero=>rfl
 |succ m=>
  rw[Kk,BY,List.getElem?_reverse (by rw[Uq];omega),Uq,Qp J];simp;omega
theorem Xy{g:AD->Op Int}{b:tyI}:∀{l:List (Nat×Bool)} {loc l':tyL} {lo:tyN} {L:List Item} {K:List Ch} {o':Op RD},DE g (YM b l) loc lo L K o' l'->
  K.length<=l.length/\(∀(m:tyN) (u:Ch),K[m]?=some u->∃p:Nat×Bool,l[m]?=some p/\u.a=(2,b+(p.1:tyI),I8 p.1 p.2))/\∀v,o'= .ret v->v.1=0/\K.length=l.length
 |[],loc,l',lo,L,K,o',h=>by
  obtain⟨_,h2,h3,_⟩:=h.BV;subst h2;exact⟨A9 _,λm u q=>by simp at q,λv e=>by rw[h3]at e;have:=Op.ret.inj e;subst this;exact⟨rfl,rfl⟩⟩
 |p::l,loc,l',lo,L,K,o',h=>by
  rcases h.Ba with⟨_,h2,h3⟩|⟨_,h2,_,_,_,h3⟩|⟨L1,L2,K2,l1,x,h2,_,_,h3⟩
  .subst h2;exact⟨DV _,λm u q=>by simp at q,λv e=>absurd e (h3 v)⟩
  .subst h2;refine⟨Az,λm u q=>?_,λv e=>absurd e (h3 v)⟩;cases m with
   |zero=>simp at q;subst q;exact⟨p,rfl,rfl⟩
   |succ m=>simp at q
  .subst h2;obtain⟨g1,g2,g3⟩:=Xy h3;refine⟨by simpa using g1,λm u q=>?_,λv e=>?_⟩
   .cases m with
    |zero=>simp at q;subst q;exact⟨p,rfl,rfl⟩
    |succ m=>exact g2 m u (Cw q)
   .obtain⟨e1,e2⟩:=g3 v e;exact⟨e1,by simp[e2]⟩
theorem R7{g:AD->Op Int}{b:tyI}{top:tyN}:∀{n i:tyN} {loc l':tyL} {lo:tyN} {L:List Item} {K:List Ch} {o':Op RD},DE g (IF b top n i) loc lo L K o' l'->n+i=top+1->
  (∀(m:tyN) (u:Ch),K[m]?=some u->u.a=(1,b+((i+m:tyN):tyI),0))/\∀v,o'= .ret v->v.1=0/\∃i0:Nat,v.2=(i0:tyI)/\(i<=i0\/i0=top)/\i0<=top/\K.length=i0+1-i/\(∀(m:tyN) (u:Ch),K[m]?=some u->∃x,u.res=some x/\(i+m<i0->Pk (i+m) x=false)/\(i+m=i0->i0<top->Pk i0 x=true))
 |0,i,loc,l',lo,L,K,o',h,hn=>by
  obtain⟨_,h2,h3,_⟩:=h.BV;subst h2;refine⟨λm u q=>by simp at q,λv e=>?_⟩;rw[h3]at e;have:=Op.ret.inj e;subst this;exact⟨rfl,top,rfl,.inr rfl,A9 _,by simp;omega,λm u q=>by simp at q⟩
 |n+1,i,loc,l',lo,L,K,o',h,hn=>by
  rcases h.Ba with⟨_,h2,h3⟩|⟨_,h2,_,_,_,h3⟩|⟨L1,L2,K2,l1,x,h2,_,_,h3⟩
  .subst h2;exact⟨λm u q=>by simp at q,λv e=>absurd e (h3 v)⟩
  .subst h2;refine⟨λm u q=>?_,λv e=>absurd e (h3 v)⟩;cases m with
   |zero=>simp at q;subst q;rfl
   |succ m=>simp at q
  .subst h2;by_cases hu:Pk i x=true
   .rw[AK hu]at h3;obtain⟨_,k2,k3,_⟩:=h3.BV;subst k2;refine⟨λm u q=>?_,λv e=>?_⟩
    .cases m with
     |zero=>simp at q;subst q;rfl
     |succ m=>simp at q
    .rw[k3]at e;have:=Op.ret.inj e;subst this;refine⟨rfl,i,rfl,J,J,Az,λm u q=>?_⟩;cases m with
     |zero=>simp at q;subst q;exact⟨x,rfl,λq=>J,λ_ _=>hu⟩
     |succ m=>simp at q
   .rw[AI hu]at h3;obtain⟨g1,g2⟩:=R7 h3 J;refine⟨λm u q=>?_,λv e=>?_⟩
    .cases m with
     |zero=>simp at q;subst q;rfl
     |succ m=>
      rw[g1 m u (Cw q),show i+1+m=i+(m+1) by omega]
    .obtain⟨e1,i0,e2,e3,e4,e5,e6⟩:=g2 v e;refine⟨e1,i0,e2,J,e4,by simp;omega,λm u q=>?_⟩;cases m with
     |zero=>
      simp at q;subst q;refine⟨x,rfl,λ_=>by simpa using hu,λq1 q2=>?_⟩;rcases e3 with e3|e3<;>omega
     |succ m=>
      obtain⟨y,y1,y2,y3⟩:=e6 m u (Cw q);rw[show i+1+m=i+(m+1) by omega]at y2 y3;exact⟨y,y1,y2,y3⟩
theorem filter_one{α:Type}{p:α->Bool}:∀{K:List α} {m:tyN},(∀j u,K[j]?=some u->(p u=true↔j=m))->K.filter p=(K[m]?).toList
 |[],m,_=>Az
 |a::K,0,h=>by
  rw[I2 ((h 0 a rfl).2 rfl),Gc,pI,Kt.2 λu hu=>?_];obtain⟨j,hj,e⟩:=Dj hu;have:=h (j+1) u (by rw[Kk,gG hj,e]);intro q;have:=this.1 q;omega
 |a::K,m+1,h=>by
  have h0:p a=false:=by
   cases e:p a with
   |false=>rfl
   |true=>have:=(h 0 a rfl).1 e;omega
  rw[FY (by rw[h0];simp),Kk]
  exact filter_one λj u hu=>by
   have:=h (j+1) u (by rw[Kk];exact hu);rw[this];omega
theorem DE.line{α:Type}{g:AD->Op Int}{o o':Op α}{lo:tyN}{K:List Ch}(h:DE g o l lo L K o' l')(hs:Seq lo L):(∀u,u∈K->lo<=u.fb/\u.fb<=AM u.lo u.its/\AM u.lo u.its<=AM lo L)/\K.Pairwise λu v=>AM u.lo u.its<=v.fb:=by
 have hu:=(h.uses hs (A9 (AM lo L)) (rg:=λ_=>False) (λi hi=>hi.elim) (on:=λ_=>true) (λi hi=>hi.elim) (CC.reg.allT o)).1;rw[mU.2 λ_ _=>rfl]at hu;obtain⟨g1,g2⟩:=hu.line;exact⟨λu hm=>⟨(g1 u hm).1,(g1 u hm).2,(hu.mem u hm).2.1⟩,g2⟩
theorem Pq(k b lo n wr rd tp c x0:tyI)(g B:tyN)(s:TS)(w:tyW)(h:AX w g B s):
  Calls Tryz.prog 252 #[pT g,.agg #[k,b,lo,n,wr,rd,tp]] w (AP encI g B w ((R3 b lo (1,c,x0)).BH s)):=by
 obtain⟨W0,hW,HT,HU,-,HS⟩:=Cr h k b lo n wr rd tp;obtain⟨R,hR⟩:=gX ((R3 b lo (1,c,x0)).BH s);rw[hR];have HE:=I (show(Op.ask (1,b,0) Op.ret:Op Int).BH s=R from hR);clear hR h;obtain⟨⟨c0,c1,c2,c3⟩,c4,c5,c6⟩:=HS W0 (TK.refl g B W0);go_enter Tryz.func252,Tryz.ntmps252;go_wp2_with fail;refine(Eg HT HE).mono ?_;rintro e w4 (⟨s4,rfl,H4,K4,E6⟩|⟨y,s4,rfl,H4,K4,E6⟩)
 .go_wp2
  exact⟨rfl,AP.none E6.out ⟨rfl,H4,HU.trans K4.out⟩⟩
 unfold encI
 go_wp2
 go_ret;exact AP.some E6.out.symm ⟨rfl,H4,HU.trans K4.out⟩
theorem Pb(k b lo n wr rd tp c v:tyI)(g B:tyN)(s:TS)(w:tyW)(h:AX w g B s):
  Calls Tryz.prog 258 #[pT g,.agg #[k,b,lo,n,wr,rd,tp],v] w (AP Kf g B w ((R3 b lo (2,c,CT v)).BH s)):=by
 obtain⟨W0,hW,HT,HU,-,HS⟩:=Cr h k b lo n wr rd tp;obtain⟨R,hR⟩:=gX ((R3 b lo (2,c,CT v)).BH s);rw[hR];obtain⟨u,hu⟩:=gX (CT v);rw[hu]at hR;have HE:=I (show(Op.get lo λx=>if x=u then .ret 0 else .ask (2,b,u) λ_=> .set lo u (.ret 0):Op Int).BH s=R from hR);unfold CT at hu;clear hR h;obtain⟨⟨c0,c1,c2,c3⟩,c4,c5,c6⟩:=HS W0 (TK.refl g B W0);by_cases hv:v=0
 all_goals
  first|rw[AK hv]at hu|rw[AI hv]at hu
  subst hu
  first|subst hv|have hv2:(v==0)=false:=by rw[Dy];exact hv
  go_enter Tryz.func258,Tryz.ntmps258;go_wp2_with fail;refine(EN HT HE).mono ?_;rintro e w1 ⟨x,rfl,rfl,E1⟩;rcases O6 E1 with⟨rfl,E2⟩|⟨hx,E2⟩
  .go_wp2_with fail
   go_end0
   exact AP.some E2.out.symm ⟨rfl,HT,HU⟩
  go_wp2_with fail;refine(Ho (k:=λ_=>_) HT E2.out).mono ?_;rintro e w2 (⟨s2,rfl,H2,K2,E3⟩|⟨_,s2,rfl,H2,K2,E3⟩)
  .go_wp2
   exact⟨rfl,AP.none E3.out ⟨rfl,H2,HU.trans K2.out⟩⟩
  clear c0 c1 c2 c3 c4 c5 c6 hx E1 E2 HE;obtain⟨⟨c0,c1,c2,c3⟩,c4,c5,c6⟩:=HS w2 K2.out;unfold Mq;go_wp2_with fail;refine(Ff H2 E3.out).mono ?_;rintro e w3 ⟨rfl,s3,H3,K3,E4⟩;go_wp2_with fail
  go_end0
  exact AP.some E4.out.symm ⟨rfl,H3,HU.trans (K2.out.trans K3.out)⟩
theorem Ls(top:tyI)(w:tyW)(h:0<=top/\top<=255):Calls Tryz.prog 185 #[top] w λe w'=>e=BA top/\w'=w:=by
 have e1:min top 255=top:=J;have e2:max 0 top=top:=J;go_enter Tryz.func185,Tryz.ntmps185;go_wp2_with fail
 all_goals
  go_ret;refine⟨?_,rfl⟩;refine DJ (λz=>Ending.returned (Value.int .i64 z)) ?_;omega
theorem Yn(k b lo n wr rd tp i:tyI)(w:tyW)(hb0:0<=b/\b<=900000)(hl0:0<=lo/\lo<=900000)(hi0:0<=i/\i<=255):
  Calls Tryz.prog 302 #[.agg #[k,b,lo,n,wr,rd,tp],i] w λe w'=>e=BA (.agg #[O 2,O (b+i),O (lo+i),n,wr,rd,O 1])/\Up w w':=by
 have x1:wrap64 (b+i)=b+i:=IntWalk.wrap64_in _ J;have x2:wrap64 (lo+i)=lo+i:=IntWalk.wrap64_in _ J;clear hb0 hl0 hi0;go_enter Tryz.func302,Tryz.ntmps302;go_wp2_with fail;refine Gz (v:= .agg #[O 2,O (b+i),O (lo+i),n,wr,rd,O 1]) ?_ rfl ⟨rfl,((AV w).alloc _).alloc _⟩;have hs:(w.alloc (Y #[O 2,O (b+i),O (lo+i),n,wr,rd,O 1] 130)).heap.size=w.heap.size+1:=Az;have hb:=Ah (w.alloc (Y #[O 2,O (b+i),O (lo+i),n,wr,rd,O 1] 130)) (Y #[O 2,O (b+i),O (lo+i),n,wr,rd,O 1] 130);rw[hs]at hb;exact GV rfl _ _ (w.heap.size+1) 130 _ _ _ rfl hb Tryz.underlying130 rfl Ay
theorem mR(b lo d i v:tyI):RW b lo (d,b+i,v)=R3 (b+i) (lo+i) (d,b+i,v):=by
 show R3 (b+i) (lo+(b+i-b)) _=_;rw[show lo+(b+i-b)=lo+i by omega]
theorem lR(j:tyN)(u:Bool):CT (I8 j u)=I8 j u:=by
 unfold I8;split<;>rfl
def AAr:Bool->Value:= .bool
variable {α:Type}
theorem pX{F:Bool->Op α}{R:Option α×TS}(k b lo n wr rd tp:tyI)(i:tyN)(g B:tyN)(s:TS)(w:tyW)(h:AX w g B s)(hb:0<=b/\b<=900000)(hl:0<=lo/\lo<=900000)(hi:i<=255)
  (hE:((Op.ask (1,b+(i:tyI),0) λx=>F (Pk i x)).sub (RW b lo)).BH s=R):
  Calls Tryz.prog 279 #[pT g,.agg #[k,b,lo,n,wr,rd,tp],i] w (Goes g B w R AAr λx=>(F x).sub (RW b lo)):=by
 obtain⟨W0,hW,HT,HU,-,HS⟩:=Cr h k b lo n wr rd tp;have HBI:=I (λW=>Yn k b lo n wr rd tp i W hb hl J);have uc:=I (λW hT=>Pq 2 (b+i) (lo+i) n wr rd 1 (b+i) 0 g B s W hT);have HE:=I (KV (mR b lo 1 i 0) hE)
 have bE:=I (show∀y:Int,Pk i y=((y==1) !=((i:tyI)==0))from λy=>by
  unfold Pk;congr 1
  by_cases h:i=0<;>simp[h])
 clear hE h hb hl hi;obtain⟨⟨c0,c1,c2,c3⟩,c4,c5,c6⟩:=HS W0 (TK.refl g B W0);go_enter Tryz.func279,Tryz.ntmps279;go_wp2_with fail;refine(HBI _).mono ?_;rintro e w1 ⟨rfl,nD⟩;have HT1:=I (HT.up nD);have K1:=I (HU.trans (TK.Bp nD));clear nD c0 c1 c2 c3 c4 c5 c6;go_wp2_with fail;refine(Aw (uc _ HT1) HE).mono ?_;rintro e w2 (⟨s2,rfl,H2,K2,E2⟩|⟨x,s2,rfl,H2,K2,E2⟩)
 .go_wp2
  exact⟨rfl,.inl ⟨s2,rfl,H2,I (K1.out.trans K2.out),E2⟩⟩
 unfold encI
 go_wp2
 go_ret;exact .inr ⟨Pk i x,s2,by rw[bE];rfl,H2,I (K1.out.trans K2.out),E2⟩
theorem kE{F:Int->Op α}{R:Option α×TS}(k b lo n wr rd tp:tyI)(i:tyN)(up:Bool)(g B:tyN)(s:TS)(w:tyW)(h:AX w g B s)(hb:0<=b/\b<=900000)(hl:0<=lo/\lo<=900000)(hi:i<=255)
  (hE:((Op.ask (2,b+(i:tyI),I8 i up) F).sub (RW b lo)).BH s=R):
  Calls Tryz.prog 291 #[pT g,.agg #[k,b,lo,n,wr,rd,tp],i,up] w (Goes g B w R Kf λx=>(F x).sub (RW b lo)):=by
 obtain⟨W0,hW,HT,HU,-,HS⟩:=Cr h k b lo n wr rd tp;have HBI:=I (λW=>Yn k b lo n wr rd tp i W hb hl J);have dh:=I (λW hT=>Pb 2 (b+i) (lo+i) n wr rd 1 (b+i) (I8 i up) g B s W hT);rw[lR]at dh;have HE:=I (KV (mR b lo 2 i _) hE);obtain⟨z,hz⟩:=gX ((i:tyI)==0)
 have hV:I8 i up=if(up !=z)=true then 1 else 0:=by
  unfold I8;rw[<-hz];by_cases h:i=0<;>cases up<;>simp[h]
 clear hE h hb hl hi;generalize I8 i up=v at*;obtain⟨⟨c0,c1,c2,c3⟩,c4,c5,c6⟩:=HS W0 (TK.refl g B W0);cases up<;>cases z
 all_goals
  simp at hV;subst hV;go_enter Tryz.func291,Tryz.ntmps291;go_wp2_with fail;refine(HBI _).mono ?_;rintro e w1 ⟨rfl,nD⟩;have HT1:=I (HT.up nD);have K1:=I (HU.trans (TK.Bp nD));clear nD c0 c1 c2 c3 c4 c5 c6;go_wp2_with fail;refine(Aw (dh _ HT1) HE).mono ?_;rintro e w2 (⟨s2,rfl,H2,K2,E2⟩|⟨x,s2,rfl,H2,K2,E2⟩)
  .go_wp2
   exact⟨rfl,.inl ⟨s2,rfl,H2,I (K1.out.trans K2.out),E2⟩⟩
  unfold Kf;go_wp2_with fail
  go_end0
  exact .inr ⟨x,s2,rfl,H2,I (K1.out.trans K2.out),E2⟩
end
end Go.Proofs.YtpodgcpkccpnfaaGreat
