import Derived.Test.YtpodgcpkccpnfaaGreatPk22
set_option linter.unusedVariables false
set_option linter.unusedSimpArgs false
set_option maxRecDepth 20000
set_option maxHeartbeats 40000000
namespace Go.Proofs.YtpodgcpkccpnfaaGreat
variable{a:AD}{u:Ch}{b lo top:Int}{l l':List Int}{L:List Item}{N i i' j n t w:Nat}{o:Op Int}
section
open Go.RowKit
def Ct (p q:Int×Int):Int×Int:=if p.1<=q.1 then q else p
def BZ (top:tyI):Int:=AZ top 255
def ET (top:tyI):Int:=Dg 4095 (BZ top) (BZ top)
def EC (n:tyN):Nat:=(n-1)*(n-1)
def AO (b:tyI)(n j:tyN):Int:=b+16*((j*EC n:tyN):tyI)
def BD (lo:tyI)(n j:tyN):Int:=lo+((j*(2+18*EC n):tyN):tyI)
def DO (top x:tyI):Int×Int:=(DW x (BZ top),B4 x (BZ top))
def Hr (b lo:tyI)(n me:tyN)(top:tyI):List Nat->Int×Int->(Int×Int->Op Int)->Op Int
 |[],p,k=>k p
 |j::js,p,k=>if j=me then .get (BD lo n j+1) λx=>Hr b lo n me top js (Ct p (DO top x)) k else .ask (1,AO b n j,0) λx=>Hr b lo n me top js (Ct p (DO top x)) k
def AAa (b lo:tyI)(n me:tyN)(top:tyI):Op Int:=Hr b lo n me top (List.range n) (0,0) λp=> .ret p.2
def ES (s v top:tyI):Int:=Dg (min (s+1) 4095) (AZ v (BZ top)) (BZ top)
def AAB (b lo:tyI)(n me:tyN)(top v:tyI):Op Int:=Hr b lo n me top (List.range n) (0,0) λp=> .ask (2,AO b n me,ES p.1 v top) λ_=> .set (BD lo n me+1) (ES p.1 v top) (.ret 0)
def qj (b:tyI)(n:tyN)(c:tyI):Nat:=((c-b)/16).toNat/EC n
def Q5 (b lo:tyI)(n:tyN)(top:tyI)(t:tyN)(a:AD):Op Int:=RX a.2.1 (BD lo n (qj b n a.2.1)) n (qj b n a.2.1) (ET top) t a
def gg (b lo:tyI)(n:tyN)(top:tyI)(t:tyN)(a:AD):Op Int:=if a.1=1 then AAa b lo n t top else AAB b lo n t top a.2.2
def aX (b lo:tyI)(n:tyN)(top:tyI)(t:tyN)(a:AD):Op Int:=(gg b lo n top t a).sub (Q5 b lo n top t)
end
section
open Go.RowKit Go.Shelf
theorem FK(n:tyN)(w:tyW)(hn:1<=n/\n<=8):Calls Tryz.prog 187 #[n] w λe w'=>e=BA n/\w'=w:=by
 have e1:min (n:tyI) 8=n:=J;have e2:max 1 (n:tyI)=n:=J;go_enter Tryz.func187,Tryz.ntmps187;go_wp2_with fail
 all_goals
  go_ret;refine⟨?_,rfl⟩;refine DJ (λz=>Ending.returned (Value.int .i64 z)) ?_;omega
theorem SE(top:tyI)(w:tyW):Calls Tryz.prog 295 #[top] w λe w'=>e=BA (O (BZ top))/\w'=w:=by
 have HC:=I (show Calls Tryz.prog 129 #[top,O 255] w λe w'=>e=BA (O (BZ top))/\w'=w from Cu top 255 w);go_enter Tryz.func295,Tryz.ntmps295;go_wp2_with fail;refine HC.mono ?_;rintro e _ ⟨rfl,rfl⟩
 go_wp2
 go_ret;exact⟨rfl,rfl⟩
theorem Pg(w:tyW):Calls Tryz.prog 150 #[] w λe w'=>e=BA (O 18)/\w'=w:=by
 have HT:=I (show Calls Tryz.prog 149 #[] w λe w'=>e=BA (O 4)/\w'=w from by
  go_enter Tryz.func149,Tryz.ntmps149
  go_wp2
  go_ret
  exact⟨rfl,rfl⟩)
 go_enter Tryz.func150,Tryz.ntmps150;go_wp2_with fail;refine HT.mono ?_;rintro e w1 ⟨rfl,rfl⟩
 go_wp2
 go_ret;exact⟨rfl,rfl⟩
theorem RB(h:n<=8):EC n<=49:=LZ (show n-1<=7 by omega) (show n-1<=7 by omega)
theorem Ku(n:tyN)(w:tyW)(hn:1<=n/\n<=8):Calls Tryz.prog 151 #[n] w λe w'=>e=BA (O ((2+18*EC n:tyN):tyI))/\w'=w:=by
 have Sc:=I (FJ n w hn);obtain⟨k,hk⟩:∃k:Nat,n-1=k:=⟨_,rfl⟩;have hk1:(n:tyI)-1=k:=J;have hs:EC n=k*k:=by unfold EC;rw[hk]
 have h49:=RB hn.2;have h7:18*k<=18*7:=LZ (A9 _) J;have e1:wrap64 ((n:tyI)-1)=(k:tyI):=by rw[hk1];exact IntWalk.wrap64_in _ J
 have e2:wrap64 (18*(k:tyI))=18*(k:tyI):=IntWalk.wrap64_in _ J;have e3:18*(k:tyI)*(k:tyI)=((18*EC n:tyN):tyI):=by rw[hs];simp[Int.mul_assoc]
 have e4:wrap64 (18*(k:tyI)*(k:tyI))=((18*EC n:tyN):tyI):=by rw[e3];exact IntWalk.wrap64_in _ J
 have HF:=I (show wrap64 (2+((18*EC n:tyN):tyI))=((2+18*EC n:tyN):tyI)from by rw[IntWalk.wrap64_in _ J];omega);have hF:=HF.out;clear hk hs h49 h7 hn e3 hk1;generalize((18*EC n:tyN):tyI)=z at*;generalize((2+18*EC n:tyN):tyI)=y at*;go_enter Tryz.func151,Tryz.ntmps151;go_wp2_with fail;refine Sc.mono ?_;rintro e w1 ⟨rfl,rfl⟩;go_wp2_with fail;refine(Pg _).mono ?_;rintro e w2 ⟨rfl,rfl⟩
 go_wp2
 go_ret;exact⟨DJ (λx=>Ending.returned (Value.int .i64 x)) HF,rfl⟩
theorem U5(hn:2<=n/\n<=8)(hj:j<n)(hb:0<=b/\b<=500000)(hl:0<=lo/\lo<=500000):∃p A C D L:Int,(n:tyI)-1=p/\16*(j:tyI)=A/\A*p=C/\C*p=D/\b+D=AO b n j/\(j:tyI)*((2+18*EC n:tyN):tyI)=L/\lo+L=BD lo n j/\(0<=p/\p<=7)/\(0<=A/\A<=112)/\(0<=C/\C<=784)/\(0<=D/\D<=5488)/\(0<=L/\L<=6188):=by
 obtain⟨q,rfl⟩:∃q,n=q+1:=⟨n-1,J⟩;have h1:j*EC (q+1)<=7*49:=LZ J (RB hn.2);have h2:j*(2+18*EC (q+1))<=7*884:=LZ J (by have:=RB hn.2;omega);have h3:16*j*q<=112*7:=LZ J J;have e2:16*j*q*q=16*(j*EC (q+1)):=by unfold EC;simp[Nat.mul_assoc]
 refine⟨(q:tyI),((16*j:tyN):tyI),((16*j*q:tyN):tyI),((16*(j*EC (q+1)):tyN):tyI),((j*(2+18*EC (q+1)):tyN):tyI),J,Az,Az,by rw[<-e2];simp,by unfold AO;simp,Az,rfl,J,J,J,J,J⟩
end
section
open Go.RowKit
theorem Xi(hw:w<n)(hlo:0<=lo/\lo+(2+18*(((n-1)*(n-1):tyN):tyI))<=32768){A:Nat->AD->Nat->Nat->Int->Prop}{cells rg:Int->Prop}{U:Nat->List Ch}
  (h:G1 (RX b lo n w top) A N cells rg U) (hrg:∀i,lo<=i->i<lo+(2+18*(((n-1)*(n-1):tyN):tyI))->i≠lo+1->rg i) (hcs:∀c,b<=c->c<b+16*(((n-1)*(n-1):tyN):tyI)->cells c) (hout:∀t,n<=t->U t=[]) (hwk:∀u,u∈U w->u.a.1=2) (QG:∀t,t≠w->∀u,u∈U t->u.a.1=1):
  ∃W:Nat->List (Ch×List Ch),(∀t,(W t).map Prod.fst=U t)/\(∀u K,(u,K)∈W w->∃o' l',DE (MH b lo) (R1 b lo (n-1) top u.a.2.2) u.l u.lo u.its K o' l'/\∀v,u.res=some v->o'= .ret v/\l'=u.l')/\
   (∀t,t≠w->∀u K,(u,K)∈W t->∃o' l',DE (MH b lo) (MF b (n-1) (CL w t) top) u.l u.lo u.its K o' l'/\∀v,u.res=some v->o'= .ret v/\l'=u.l')/\
   (∀u K,(u,K)∈W w->∀u',u'∈K->u'.a.1=2/\∃a,a<n-1/\u'.a.2.1=BO b a)/\(∀t,t≠w->∀u K,(u,K)∈W t->∀u',u'∈K->tP b (n-1) (CL w t) u'.a)/\
   ∀m:Nat,m<(n-1)*(n-1)->Wu (SR (b+16*(m:tyI)) (lo+(2+18*(m:tyI)))) A N (λc=>b+16*(m:tyI)<=c/\c<b+16*(m:tyI)+16) (λi=>lo+(2+18*(m:tyI))<=i/\i<lo+(2+18*(m:tyI))+18) λt=>part (b+16*(m:tyI)) (W t):=by
 obtain⟨W,w1,w2,w3⟩:=G1.parts (T:=λt=>jO b lo n w top t) (g:=λ_=>MH b lo) (λ_ a x=>(Fs b lo a).ask x) h
 have hKW:∀u K,(u,K)∈W w->∃o' l',DE (MH b lo) (R1 b lo (n-1) top u.a.2.2) u.l u.lo u.its K o' l'/\∀v,u.res=some v->o'= .ret v/\l'=u.l':=λu K hm=>by
  obtain⟨q1,q2⟩:=w2 w u K hm;unfold jO at q2;rw[AI (by rw[hwk u q1];decide)]at q2;exact q2
 have hKR:∀t,t≠w->∀u K,(u,K)∈W t->∃o' l',DE (MH b lo) (MF b (n-1) (CL w t) top) u.l u.lo u.its K o' l'/\∀v,u.res=some v->o'= .ret v/\l'=u.l':=λt ht u K hm=>by
  obtain⟨q1,q2⟩:=w2 t u K hm;unfold jO at q2;rw[AK (QG t ht u q1)]at q2;exact q2
 refine⟨W,w1,hKW,hKR,λu K hm u' hu'=>?_,λt ht u K hm u' hu'=>?_,λm hm=>?_⟩
 .obtain⟨o',l',d,_⟩:=hKW u K hm;exact d.all (SB (Q:=λq=>q.1=2/\∃a,a<n-1/\q.2.1=BO b a) λa x ha=>⟨rfl,a,ha,rfl⟩) u' hu'
 .obtain⟨o',l',d,_⟩:=hKR t ht u K hm;exact d.all (Qs λq hq=>hq) u' hu'
 .have xr:(m:tyI)+1<=(((n-1)*(n-1):tyN):tyI):=J
  have other:∀(m':tyN) (a:AD),m'<(n-1)*(n-1)->a.2.1=b+16*(m':tyI)->D9 (b+16*(m:tyI)) a=false->(∀i,(lo+(2+18*(m:tyI))<=i/\i<lo+(2+18*(m:tyI))+18)->(MH b lo a).keeps i)/\(MH b lo a).all λa'=> ¬(b+16*(m:tyI)<=a'.2.1/\a'.2.1<b+16*(m:tyI)+16):=λm' a h1 h2 h3=>by
   have hne:m'≠m:=λe=>by subst e;unfold D9 at h3;rw[h2]at h3;simp at h3
   rw[If m' h2];exact⟨λi hi=>OY J _,dK (λa' q1 q2=>J) _⟩
  refine G1.fn (w3 _ _ (D9 (b+16*(m:tyI))) (λc hc=>hcs c J J) (λi hi=>⟨hrg i J J J,J⟩) λt u hu=>?_) λt u hu=>If m (by have:=(Db.1 hu).2;unfold D9 at this;simpa using this)
  have htn:t<n:=by
   rcases CR t n with g|g
   .exact g
   .rw[hout t g]at hu;cases hu
  by_cases EW:t=w
  .subst EW;unfold jO;rw[AI (by rw[hwk u hu];decide)];refine⟨λi hi=>RT J,SB λa x ha hon=>other a _ ?_ rfl hon⟩;have:n-1<=(n-1)*(n-1):=Yh _ J;omega
  .unfold jO;rw[AK (QG t EW u hu)];have hr:=NH hw htn EW;refine⟨λi hi=>RK,Qs λq hq hon=>?_⟩;rcases hq with⟨_,e|⟨c,h1,h2,e⟩⟩|⟨_,c,h1,h2,e⟩
   .refine other (CL w t) q ?_ e hon;have:n-1<=(n-1)*(n-1):=Yh _ J;omega
   .exact other _ q (D3 h1 hr (λq=>h2 q.symm)).2 e hon
   .exact other _ q (D3 hr h1 h2).2 e hon
theorem Ec{U:List Ch}{k:tyN}(h:U[k]?=some u):(U.map (Ch.wr N))[k]?=some (u.wr N):=by rw[BY,h];rfl
theorem Ty(hn:2<=n)(hw:w<n)(htop:0<=top/\top<=1048576)(hlo:0<=lo/\lo+(2+18*(((n-1)*(n-1):tyN):tyI))<=32768){A:Nat->AD->Nat->Nat->Int->Prop}{cells rg:Int->Prop}{U:Nat->List Ch}
  (h:G1 (RX b lo n w top) A N cells rg U) (hrg:∀i,lo<=i->i<lo+(2+18*(((n-1)*(n-1):tyN):tyI))->i≠lo+1->rg i) (hcs:∀c,b<=c->c<b+16*(((n-1)*(n-1):tyN):tyI)->cells c) (hout:∀t,n<=t->U t=[])
  (hwk:∀u,u∈U w->u.a.1=2/\0<=u.a.2.2/\u.a.2.2<=top) (QG:∀t,t≠w->∀u,u∈U t->u.a.1=1) (hcnt:(U w).length<=500000) (nY:∀t t' a a' b e e' x x',A t a b e x->A t' a' b e' x'->t=t')
  (hs:∀c,b<=c->c<b+16*(((n-1)*(n-1):tyN):tyI)->GH A N c (if(c-b)%16<4 then Bo else 1)):∃f,SW ((U w).map (Ch.wr N)) (λp q x=> ∃t,t≠w/\B6 N (U t) p q x) f:=by
 classical
 obtain⟨W,w1,wW,wR,kW,kR,wP⟩:=Xi hw hlo h hrg hcs hout (λu hu=>(hwk u hu).1) QG;obtain⟨k,hk⟩:=gX (n-1);rw[hk]at hlo hrg hcs hs wW wR kW kR wP;have hk1:1<=k:=J;have hkk:k<=k*k:=Yh _ hk1;have hroot:∀t a,CA (RX b lo n w top t a)\/True:=λ_ _=> .inr trivial
 have hsl:∀m:Nat,m<k*k->∀c,b+16*(m:tyI)<=c->c<b+16*(m:tyI)+16->GH A N c (if c<b+16*(m:tyI)+4 then Bo else 1):=λm hm c h1 h2=>by
  have:=hs c J J;by_cases hc:c<b+16*(m:tyI)+4
  .rw[AK hc];rw[AK J]at this;exact this
  .rw[AI hc];rw[AI J]at this;exact this
 have hpm:∀(c:tyI) (t:tyN) (u':Ch),u'∈part c (W t)->u'.a.2.1=c/\∃u K,(u,K)∈W t/\u'∈K:=λc t u' hu=>by
  obtain⟨q1,q2⟩:=Db.1 hu;obtain⟨⟨u,K⟩,q3,q4⟩:=FZ.1 q1;exact⟨by unfold D9 at q2;simpa using q2,u,K,q3,q4⟩
 have d7:∀t,n<=t->W t=[]:=λt ht=>by
  have:=w1 t;rw[hout t ht]at this;exact jk.1 this
 have OG:∀t u K,(u,K)∈W t->u∈U t:=λt u K hm=>by rw[<-w1];exact Cd.2 ⟨_,hm,rfl⟩
 have ACi:(W w).length=(U w).length:=by rw[<-w1,Ca]
 have rW:=λa ha=>XF J (g:=MH b lo) (λc hc x=>by
  obtain⟨d,hd,rfl⟩:=Cd.1 hc;rw[If d rfl]
  exact OY J _) (RG:=rg) (hrg lo J J J) (N:=N) (W w) (at':=0) (σ:=λ_=>0) (s0:=0) (F:=RX b lo n w top w) (by rw[w1];exact h.uses w) wW rfl (by rw[ACi];omega) a ha
 have xt:∀t,t≠w->∀a:AD,CA ((MF b k (CL w t) top).sub (MH b lo)):=λt _ a=>JQ (Fs b lo) ⟨_,_,rfl⟩
 have ACj:∀t,t≠w->Bk (λ_=>(MF b k (CL w t) top).sub (MH b lo)) rg N 0 (λ_=>0) ((W t).map Prod.fst):=λt ht=>by
  rw[w1]
  exact(h.uses t).fn λu hu=>by
   show(jO b lo n w top t u.a).sub _=_;unfold jO;rw[AK (QG t ht u hu),hk]
 have xu:∀a,a<k->∃rs,UK b k a top N 0 (W (C7 w a)) rs:=λa ha=>by
  refine Q4 ha (g:=MH b lo) (Fs b lo) (xt _ Mt) (W (C7 w a)) (ACj _ Mt) (by have:=wR _ (Mt (w:=w) (a:=a));rw[Fb]at this;exact this) λu K hm u' hu' c hc hne e=>?_
  have:=kR _ Mt u K hm u' hu';rw[Fb]at this;rcases this with⟨_,q|⟨d,d1,d2,q⟩⟩|⟨q,_⟩
  .exfalso;have h1:=(D3 ha hc hne).1;rw[e]at q;unfold A8 BO at q;omega
  .exfalso;rw[e]at q;have:=(Lu ha hc hne d1 ha (λz=>d2 z.symm) (by unfold A8 at q;omega)).1;exact d2 this.symm
  .exact q
 obtain⟨rows,hrows⟩:∃rows:Nat->List SS,∀a,a<k->UK b k a top N 0 (W (C7 w a)) (rows a):=by
  refine⟨λa=>if ha:a<k then Classical.choose (xu a ha)else[],λa ha=>?_⟩;show UK b k a top N 0 (W (C7 w a)) (if ha:a<k then Classical.choose (xu a ha)else[]);rw[IG ha];exact Cg (xu a ha)
 have sR:∀a,a<k->∀t,t≠w->t≠C7 w a->part (BO b a) (W t)=[]:=λa ha t h1 h2=>by
  cases e:part (BO b a) (W t)with
  |nil=>rfl
  |cons u' AF=>
   exfalso;obtain⟨q1,u,K,q2,q3⟩:=hpm (BO b a) t u' (by rw[e];exact .head _)
   have htn:t<n:=by
    rcases CR t n with g|g
    .exact g
    .rw[d7 t g]at q2;cases q2
   have hr:=NH hw htn h1;rw[hk]at hr;rcases kR t h1 u K q2 u' q3 with⟨_,q|⟨c,c1,c2,q⟩⟩|⟨_,c,c1,c2,q⟩
   .rw[q1]at q;have:a=CL w t:=by unfold BO at q;omega
    rw[this,OC h1]at h2;exact h2 rfl
   .have:=(D3 c1 hr (λz=>c2 z.symm)).1;rw[q1]at q;unfold A8 BO at q;omega
   .have:=(D3 hr c1 c2).1;rw[q1]at q;unfold A8 BO at q;omega
 have d9:∀a c,a<k->c<k->c≠a->(∀t,t≠C7 w a->t≠C7 w c->part (A8 b k a c) (W t)=[])/\(∀u',u'∈part (A8 b k a c) (W (C7 w a))->u'.a.1=2)/\∀u',u'∈part (A8 b k a c) (W (C7 w c))->u'.a.1=1:=λa c ha hc hne=>by
  have key:∀t u',u'∈part (A8 b k a c) (W t)->t≠w/\(CL w t=a/\u'.a.1=2\/CL w t=c/\u'.a.1=1):=λt u' hu'=>by
   obtain⟨q1,u,K,q2,q3⟩:=hpm _ t u' hu';have hl:=(D3 ha hc hne).1
   have EW:t≠w:=λe=>by
    subst e;obtain⟨_,d,d1,d2⟩:=kW u K q2 u' q3;rw[q1]at d2;unfold A8 BO at d2;omega
   have htn:t<n:=by
    rcases CR t n with g|g
    .exact g
    .rw[d7 t g]at q2;cases q2
   have hr:=NH hw htn EW;rw[hk]at hr;refine⟨EW,?_⟩;rcases kR t EW u K q2 u' q3 with⟨p1,q|⟨d,d1,d2,q⟩⟩|⟨p1,d,d1,d2,q⟩
   .rw[q1]at q;unfold A8 BO at q;omega
   .rw[q1]at q;have:=Lu ha hc hne d1 hr (λz=>d2 z.symm) (by unfold A8 at q;omega);exact .inr ⟨this.2.symm,p1⟩
   .rw[q1]at q;have:=Lu ha hc hne hr d1 d2 (by unfold A8 at q;omega);exact .inl ⟨this.1.symm,p1⟩
  refine⟨λt h1 h2=>?_,λu' hu'=>?_,λu' hu'=>?_⟩
  .cases e:part (A8 b k a c) (W t)with
   |nil=>rfl
   |cons u' AF=>
    exfalso;obtain⟨q1,q2⟩:=key t u' (by rw[e];exact .head _);rcases q2 with⟨q2,_⟩|⟨q2,_⟩
    .rw[<-q2,OC q1]at h1;exact h1 rfl
    .rw[<-q2,OC q1]at h2;exact h2 rfl
  .obtain⟨_,⟨_,q⟩|⟨q,_⟩⟩:=key _ u' hu'
   .exact q
   .rw[Fb]at q;exact absurd q.symm hne
  .obtain⟨_,⟨q,_⟩|⟨_,q⟩⟩:=key _ u' hu'
   .rw[Fb]at q;exact absurd q hne
   .exact q
 have slo:∀m:Nat,m<k*k->0<=lo+(2+18*(m:tyI))/\lo+(2+18*(m:tyI))+18<=32768:=λm hm=>J
 have small:∀m:Nat,m<k*k->∀t p e x,(∀u',u'∈part (b+16*(m:tyI)) (W t)->u'.a.1=1)->B6 N (part (b+16*(m:tyI)) (W t)) p e x->0<=x/\x<=Bo:=λm hm t p e x h1 ⟨u,q1,q2,q3,q4,q5⟩=>
  Wv (slo m hm) (wP m hm) (λi g1 g2=>⟨g1,g2⟩) (λc g1 g2=>⟨g1,g2⟩) (λc g1 g2=>by have:=hsl m hm c g1 J;rw[AK g2]at this;exact this) (t:=t) q1 (h1 u q1) q4 (by rw[q3];exact q5)
 have eD:∀a,a<k->∀u',u'∈part (BO b a) (W (C7 w a))->u'.a.1=1:=λa ha u' hu'=>by
  obtain⟨q1,u,K,q2,q3⟩:=hpm _ _ u' hu';rcases kR _ Mt u K q2 u' q3 with⟨p1,_⟩|⟨_,d,d1,d2,q⟩
  .exact p1
  .exfalso;rw[Fb]at q d2;have:=(D3 ha d1 d2).1;rw[q1]at q;unfold A8 BO at q;omega
 have xv:∀a,a<k->∀(j:tyN) (x:SS),(rows a)[j]?=some x->0<=x.r.x/\x.r.x<=Bo:=λa ha j x hx=>by
  have hr:=hrows a ha;rcases hr.is j x hx with q|⟨c,hc,hne,q⟩
  .obtain⟨e,_,_,h3⟩:=hr.own j x hx;rw[q];exact small a J _ _ _ _ (eD a ha) h3
  .obtain⟨e,_,_,h3⟩:=hr.Z6 j x hx c hc hne;rw[q];exact small _ (D3 hc ha (λz=>hne z.symm)).2 _ _ _ _ (d9 c a hc ha λz=>hne z.symm).2.2 h3
 have own:∀a,a<k->∃f,SW ((part (BO b a) (W w)).map (Ch.wr N)) (B6 N (part (BO b a) (W (C7 w a)))) f:=λa ha=>by
  refine O3 (slo a J) (wP a J) (λi g1 g2=>⟨g1,g2⟩) (λc g1 g2=>⟨g1,g2⟩) (Cz Mt) (sR a ha) (λu' hu'=>?_) (eD a ha) (hsl a J);obtain⟨κ,hκ,e⟩:=Dj hu';obtain⟨u,K,q1,q2,q3⟩:=(rW a ha).1 κ u' (by rw[<-e];exact gG hκ);have hu:=(hwk u (OG w u K (BI q1))).2;have hκ':=(Be.1 q1).1;rw[q3];exact⟨rfl,j6 J htop hu⟩
 have Z6:∀a c,a<k->c<k->c≠a->∃f,SW ((part (A8 b k a c) (W (C7 w a))).map (Ch.wr N)) (B6 N (part (A8 b k a c) (W (C7 w c)))) f:=λa c ha hc hne=>by
  have hm:=(D3 ha hc hne).2;obtain⟨g1,g2,g3⟩:=d9 a c ha hc hne;refine O3 (slo _ hm) (wP _ hm) (λi g1 g2=>⟨g1,g2⟩) (λc g1 g2=>⟨g1,g2⟩) (λe=>?_) g1 (λu' hu'=>?_) g3 (hsl _ hm)
  .have:=DJ (CL w) e;rw[Fb,Fb]at this;exact hne this.symm
  .refine⟨g2 u' hu',?_⟩;obtain⟨κ,hκ,e⟩:=Dj hu';obtain⟨x,q1,q2,q3⟩:=(hrows a ha).put c hc hne κ u' (by rw[<-e];exact gG hκ);rw[q2];exact xv a ha κ x q1
 obtain⟨fO,xw⟩:∃fO:Nat->Nat->Nat,∀a,a<k->SW ((part (BO b a) (W w)).map (Ch.wr N)) (B6 N (part (BO b a) (W (C7 w a)))) (fO a):=by
  refine⟨λa=>if ha:a<k then Classical.choose (own a ha)else λ_=>0,λa ha=>?_⟩;show SW _ _ (if ha:a<k then Classical.choose (own a ha)else λ_=>0);rw[IG ha];exact Cg (own a ha)
 obtain⟨fT,xy⟩:∃fT:Nat->Nat->Nat->Nat,∀a c,a<k->c<k->c≠a->SW ((part (A8 b k a c) (W (C7 w a))).map (Ch.wr N)) (B6 N (part (A8 b k a c) (W (C7 w c)))) (fT a c):=by
  refine⟨λa c=>if h':a<k/\c<k/\c≠a then Classical.choose (Z6 a c h'.1 h'.2.1 h'.2.2)else λ_=>0,λa c ha hc hne=>?_⟩;show SW _ _ (if h':a<k/\c<k/\c≠a then Classical.choose (Z6 a c h'.1 h'.2.1 h'.2.2)else λ_=>0);rw[IG ⟨ha,hc,hne⟩];exact Cg (Z6 a c ha hc hne)
 obtain⟨X,hX⟩:∃X:Nat->Int,X=fun κ=>match κ with|0=>0|m+1=>Dg ((m+1:tyN):tyI) ((U w).getD m ⟨(0,0,0),0,[],[],[],none⟩).a.2.2 top:=⟨_,rfl⟩
 have X1:∀(m:tyN) (u:Ch),(U w)[m]?=some u->X (m+1)=Dg ((m+1:tyN):tyI) u.a.2.2 top:=λm u hu=>by
  rw[hX];show Dg _ ((U w).getD m _).a.2.2 top=_;rw[Ai hu]
 have X0:X 0=0:=by rw[hX]
 have Wat:∀(κ:tyN) (u:Ch),(U w)[κ]?=some u->∃K,(W w)[κ]?=some (u,K):=fun κ u hu=>by
  rw[<-w1,BY]at hu;cases e:(W w)[κ]? with
  |none=>rw[e]at hu;cases hu
  |some p=>rw[e]at hu;obtain⟨u',K⟩:=p;cases hu;exact⟨K,rfl⟩
 have zT:∀(t κ:tyN) (u:Ch) (K:List Ch),(W t)[κ]?=some (u,K)->(U t)[κ]?=some u:=λt κ u K hu=>by
  rw[<-w1,BY,hu];rfl
 have xz:∀a,a<k->∀(κ:tyN) (u':Ch),(part (BO b a) (W w))[κ]?=some u'->∃u K,(U w)[κ]?=some u/\(u,K)∈W w/\u'∈K/\u'.a.2.2=X (κ+1):=λa ha κ u' hu'=>by
  obtain⟨u,K,q1,q2,q3⟩:=(rW a ha).1 κ u' hu';exact⟨u,K,zT w κ u K q1,BI q1,q2,by rw[q3,X1 κ u (zT w κ u K q1)];show Dg ((0+κ+1:tyN):tyI) _ _=_;rw[Dw]⟩
 have yA:∀a,a<k->(part (BO b a) (W w)).length<=(U w).length:=λa ha=>by
  cases e:(part (BO b a) (W w)).length with
  |zero=>exact DV _
  |succ m=>
   have G8:m<(part (BO b a) (W w)).length:=J;obtain⟨u,K,q1,_⟩:=xz a ha m _ (gG G8);exact(Be.1 q1).1
 have yB:∀a c,a<k->c<k->c≠a->(part (A8 b k a c) (W (C7 w a))).length<=(rows a).length:=λa c ha hc hne=>by
  cases e:(part (A8 b k a c) (W (C7 w a))).length with
  |zero=>exact DV _
  |succ m=>
   have G8:m<(part (A8 b k a c) (W (C7 w a))).length:=J;obtain⟨x,q1,_⟩:=(hrows a ha).put c hc hne m _ (gG G8);exact(Be.1 q1).1
 have UY:∀(a j:tyN) (r:NX),((rows a).map SS.r)[j]?=some r->∃x,(rows a)[j]?=some x/\x.r=r:=λa j r hr=>by
  rw[BY]at hr;cases e:(rows a)[j]? with
  |none=>rw[e]at hr;cases hr
  |some x=>rw[e]at hr;cases hr;exact⟨x,rfl,rfl⟩
 have n6:∀(a j:tyN) (x:SS),(rows a)[j]?=some x->((rows a).map SS.r)[j]?=some x.r:=λa j x hx=>by rw[BY,hx];rfl
 have ACk:∀(i:tyN) (v:pK),((U w).map λu=>(⟨u.fb,u.e N⟩:pK))[i]?=some v->∃u,(U w)[i]?=some u/\v=⟨u.fb,u.e N⟩:=λi v hv=>by
  rw[BY]at hv;cases e:(U w)[i]? with
  |none=>rw[e]at hv;cases hv
  |some u=>rw[e]at hv;cases hv;exact⟨u,rfl,rfl⟩
 have ud:∀t,Bk (λa=>RX b lo n w top t a) rg N 0 (λ_=>0) (U t):=h.uses
 have fbW:∀u K,(u,K)∈W w->∀u',u'∈K->u.fb<=u'.fb/\AM u'.lo u'.its<=AM u.lo u.its:=λu K hm u' hu'=>by
  obtain⟨o',l',d,_⟩:=wW u K hm;have hq:=((ud w).mem u (OG w u K hm)).1;exact⟨d.zp (Fs b lo) hq u' hu',(d.within hq u' hu').2.2⟩
 have Sb:U7 k X ((U w).map λu=>(⟨u.fb,u.e N⟩:pK)) (λa=>(rows a).map SS.r) (λa j=>fO a (((rows a).getD j ⟨tb0,0,λ_=>0⟩).ob)) (λc a j=>fT c a (((rows a).getD j ⟨tb0,0,λ_=>0⟩).tb c)):=
  {X0:=X0
   up:=λi j hij hj=>by
    rw[Ca]at hj;obtain⟨m,rfl⟩:∃m,j=m+1:=⟨j-1,J⟩;have G8:m<(U w).length:=J;have hm:=gG G8;have vm:=(hwk _ (KD G8)).2;rw[X1 m _ hm];cases i with
    |zero=>
     rw[X0,Fp J htop vm];have:1*(top+1)<=((m+1:tyN):tyI)*(top+1):=TQ J J;omega
    |succ i=>
     have hil:i<(U w).length:=J;rw[X1 i _ (gG hil)];exact lY J J J htop (hwk _ (KD hil)).2 vm
   O7:=λa j r ha hr=>by
    obtain⟨x,hx,rfl⟩:=UY a j r hr;obtain⟨u,K,q1,q2,q3,q4,q5,q6,q7,_⟩:=(hrows a ha).at' j x hx;omega
   ole:=λa j r ha hr=>by
    obtain⟨x,hx,rfl⟩:=UY a j r hr;obtain⟨e,h1,h2,h3⟩:=(hrows a ha).own j x hx;rw[Ai hx,Ca];have:=(xw a ha).le _ _ _ h3;rw[Ca]at this;exact DB this (yA a ha)
   ov:=λa j r ha hr=>by
    obtain⟨x,hx,rfl⟩:=UY a j r hr;obtain⟨e,h1,h2,h3⟩:=(hrows a ha).own j x hx;rw[Ai hx,(xw a ha).val _ _ _ h3];have hl:=(xw a ha).le _ _ _ h3;rw[Ca]at hl;cases e2:fO a x.ob with
    |zero=>exact X0.symm
    |succ m=>
     have G8:m<(part (BO b a) (W w)).length:=J;have hm:=gG G8;rw[Bz (Ec hm)];obtain⟨u,K,_,_,_,q⟩:=xz a ha m _ hm;exact q
   oa:=λa j r i v ha hr hv hi=>by
    obtain⟨x,hx,rfl⟩:=UY a j r hr;obtain⟨e,h1,h2,h3⟩:=(hrows a ha).own j x hx;rw[Ai hx]at hi;have hl:=(xw a ha).le _ _ _ h3;rw[Ca]at hl;have hil:i<(part (BO b a) (W w)).length:=J;have hii:=gG hil;have:=(xw a ha).ahead _ _ _ h3 i _ (Ec hii) hi;obtain⟨u,K,q1,q2,q3,_⟩:=xz a ha i _ hii;obtain⟨u2,q4,rfl⟩:=ACk i v hv;rw[q1]at q4;cases q4;have h4:=(fbW u K q2 _ q3).1;show u.fb<x.r.de;change (part (BO b a) (W w))[i].fb<e at this;omega
   ob:=λa j r i v ha hr hv hlt=>by
    obtain⟨x,hx,rfl⟩:=UY a j r hr;obtain⟨e,h1,h2,h3⟩:=(hrows a ha).own j x hx;obtain⟨u0,K0,p1,p2,p3,p4,p5,p6,p7,p8⟩:=(hrows a ha).at' j x hx;rw[Ai hx];obtain⟨u,q1,rfl⟩:=ACk i v hv;have hlt':u.e N<x.r.b:=hlt;obtain⟨K,q2⟩:=Wat i u q1
    have hres:∃y,u.res=some y:=by
     cases e3:u.res with
     |none=>exfalso;unfold Ch.e at hlt';rw[e3]at hlt';have:N<x.r.b:=hlt';omega
     |some y=>exact⟨y,rfl⟩
    obtain⟨u',q3,q4,⟨y',q5⟩⟩:=(rW a ha).2 i u K q2 hres;refine(xw a ha).behind _ _ _ h3 i _ (Ec q3) ?_;have h5:=(fbW u K (BI q2) u' q4).2;obtain⟨y,hy⟩:=hres;unfold Ch.e at hlt';rw[hy]at hlt';show u'.e N<x.ob;unfold Ch.e;rw[q5];have:AM u.lo u.its<x.r.b:=hlt';show AM u'.lo u'.its<x.ob;omega
   om:=λa j j' r r' ha hjj hr hr'=>by
    obtain⟨x,hx,rfl⟩:=UY a j r hr;obtain⟨x',hx',rfl⟩:=UY a j' r' hr';obtain⟨e,h1,h2,h3⟩:=(hrows a ha).own j x hx;obtain⟨e',h1',h2',h3'⟩:=(hrows a ha).own j' x' hx';obtain⟨u0,K0,p1,p2,p3,p4,p5,p6,p7,p8⟩:=(hrows a ha).at' j x hx;have:=(hrows a ha).row j j' x x' hjj hx hx';rw[Ai hx,Ai hx'];exact(xw a ha).mono _ _ _ _ _ _ h3 h3' J
   tle:=λa c j r ha hc hac hr=>by
    obtain⟨x,hx,rfl⟩:=UY a j r hr;obtain⟨e,h1,h2,h3⟩:=(hrows a ha).Z6 j x hx c hc (Cz hac);rw[Ai hx,Ca];have:=(xy c a hc ha hac).le _ _ _ h3;rw[Ca]at this;exact DB this (yB c a hc ha hac)
   lx:=λa c j r ha hc hac hr=>by
    obtain⟨x,hx,rfl⟩:=UY a j r hr;obtain⟨e,h1,h2,h3⟩:=(hrows a ha).Z6 j x hx c hc (Cz hac);rw[Ai hx,(xy c a hc ha hac).val _ _ _ h3];have hl:=(xy c a hc ha hac).le _ _ _ h3;rw[Ca]at hl;cases e2:fT c a (x.tb c)with
    |zero=>rfl
    |succ m=>
     have G8:m<(part (A8 b k c a) (W (C7 w c))).length:=J;have hm:=gG G8;rw[Bz (Ec hm)];obtain⟨x2,q1,q2,_⟩:=(hrows c hc).put a ha hac m _ hm;rw[JH (n6 c m x2 q1)];show(part (A8 b k c a) (W (C7 w c)))[m].a.2.2=_;rw[q2]
   ta:=λa c j r i s ha hc hac hr hs' hi=>by
    obtain⟨x,hx,rfl⟩:=UY a j r hr;obtain⟨y,hy,rfl⟩:=UY c i s hs';obtain⟨e,h1,h2,h3⟩:=(hrows a ha).Z6 j x hx c hc (Cz hac);rw[Ai hx]at hi;have hl:=(xy c a hc ha hac).le _ _ _ h3;rw[Ca]at hl;have hil:i<(part (A8 b k c a) (W (C7 w c))).length:=J;have hii:=gG hil;have hah:=(xy c a hc ha hac).ahead _ _ _ h3 i _ (Ec hii) hi;obtain⟨x2,q1,q2,q3⟩:=(hrows c hc).put a ha hac i _ hii;rw[hy]at q1;cases q1;obtain⟨_,u,K,m1,m2⟩:=hpm _ _ _ (KD hil);have hd:=wR _ (Mt (w:=w) (a:=c)) u K m1;obtain⟨o',l',d,_⟩:=hd;have hq:=((ud (C7 w c)).mem u (OG _ u K m1)).1;obtain⟨a0,b0,e0,x0,L0,r0⟩:=d.rooted (Fs b lo) _ m2;have hw2:=(d.within hq _ m2).2.1
    have:((part (A8 b k c a) (W (C7 w c)))[i]).lo<((part (A8 b k c a) (W (C7 w c)))[i]).fb:=by
     unfold Ch.fb;rw[r0]at hw2|-;exact hw2.1
    change ((part (A8 b k c a) (W (C7 w c)))[i]).fb<e at hah;omega
   tb:=λa c j r i s ha hc hac hr hs' hlt=>by
    obtain⟨x,hx,rfl⟩:=UY a j r hr;obtain⟨y,hy,rfl⟩:=UY c i s hs';obtain⟨e,h1,h2,h3⟩:=(hrows a ha).Z6 j x hx c hc (Cz hac);obtain⟨u0,K0,p1,p2,p3,p4,p5,p6,p7,p8⟩:=(hrows a ha).at' j x hx;rw[Ai hx];obtain⟨u',q1,q2⟩:=(hrows c hc).CY a ha hac i y hy J;refine(xy c a hc ha hac).behind _ _ _ h3 i _ (Ec q1) ?_;show u'.e N<x.tb c;omega
   tm:=λa c j j' r r' ha hc hac hjj hr hr'=>by
    obtain⟨x,hx,rfl⟩:=UY a j r hr;obtain⟨x',hx',rfl⟩:=UY a j' r' hr';obtain⟨e,h1,h2,h3⟩:=(hrows a ha).Z6 j x hx c hc (Cz hac);obtain⟨e',h1',h2',h3'⟩:=(hrows a ha).Z6 j' x' hx' c hc (Cz hac);obtain⟨u0,K0,p1,p2,p3,p4,p5,p6,p7,p8⟩:=(hrows a ha).at' j x hx;have:=(hrows a ha).row j j' x x' hjj hx hx';rw[Ai hx,Ai hx'];exact(xy c a hc ha hac).mono _ _ _ _ _ _ h3 h3' J
   yn:=λa j r ha hr=>by
    obtain⟨x,hx,rfl⟩:=UY a j r hr;exact(hrows a ha).yn j x hx
   ge:=λa c j r ha hc hac hr=>by
    obtain⟨x,hx,rfl⟩:=UY a j r hr;exact(hrows a ha).ge j x hx c hc (Cz hac)
   is:=λa j r ha hr=>by
    obtain⟨x,hx,rfl⟩:=UY a j r hr;rcases(hrows a ha).is j x hx with q|⟨c,hc,hne,q⟩
    .exact .inl q
    .exact .inr ⟨c,hc,Cz hne,q⟩
   row:=λa j j' r r' ha hjj hr hr'=>by
    obtain⟨x,hx,rfl⟩:=UY a j r hr;obtain⟨x',hx',rfl⟩:=UY a j' r' hr'
    exact(hrows a ha).row j j' x x' hjj hx hx'}
 have ACl:∀i j,i<=(U w).length->j<=(U w).length->X i=X j->i=j:=λi j hi hj e=>by
  rcases Fq i j with g|g|g
  .have:=Sb.up i j g (by rw[Ca];exact hj);omega
  .exact g
  .have:=Sb.up j i g (by rw[Ca];exact hi);omega
 have hrd:∀(p q:tyN) (y:tyI),(∃t,t≠w/\B6 N (U t) p q y)->∃(a j:tyN) (x:SS) (F:tyN),a<k/\(rows a)[j]?=some x/\x.r.b=p/\x.r.e=q/\y=B4 x.r.x top/\F<=(U w).length/\x.r.x=X F/\(∀(i:tyN) (u:Ch),(U w)[i]?=some u->i<F->u.fb<x.r.de)/\x.r.de<=q/\q<N:=λp q y ⟨t,ht,u,h1,h2,h3,h4,h5⟩=>by
  have htn:t<n:=by
   rcases CR t n with g|g
   .exact g
   .rw[hout t g]at h1;cases h1
  have ha:=NH hw htn ht;rw[hk]at ha;obtain⟨j,hj,e⟩:=Dj h1;have hj':(U t)[j]?=some u:=by rw[gG hj,e]
  rw[<-w1,BY]at hj';cases e2:(W t)[j]? with
  |none=>rw[e2]at hj';cases hj'
  |some pr=>
   rw[e2]at hj';obtain⟨u2,K⟩:=pr;cases hj'
   have hr:=hrows _ ha;rw[OC ht]at hr;obtain⟨x,q1,q2⟩:=hr.fin j u2 K e2 y h4 (by rw[h3];exact h5);obtain⟨u0,K0,p1,p2,p3,p4,p5,p6,p7,p8⟩:=hr.at' j x q1;rw[e2]at p1;cases p1;obtain⟨F,g1,g2,g3⟩:=Sb.wrote _ _ j x.r ha (n6 _ j x q1) rfl;rw[Ca]at g1;exact⟨_,j,x,F,ha,q1,p2.trans h2,p3.trans h3,q2,g1,g2,λi u hu hi=>g3 i ⟨u.fb,u.e N⟩ (by rw[BY,hu];rfl) hi,(by have h3':u2.e N=q:=h3;omega),h5⟩
 have hone:∀(a j a' j':tyN) (x x':SS),a<k->a'<k->(rows a)[j]?=some x->(rows a')[j']?=some x'->x.r.b=x'.r.b->x=x':=λa j a' j' x x' ha ha' hx hx' he=>by
  obtain⟨u,K,p1,p2,p3,p4,p5,p6,p7,p8⟩:=(hrows a ha).at' j x hx;obtain⟨u',K',p1',p2',p3',p4',p5',p6',p7',p8'⟩:=(hrows a' ha').at' j' x' hx';obtain⟨q,e,y,p9⟩:=p8;obtain⟨q',e',y',p9'⟩:=p8';have hA:=h.inl _ u (OG _ u K (BI p1)) _ _ _ _ p9;have hA':=h.inl _ u' (OG _ u' K' (BI p1')) _ _ _ _ p9';rw[<-p2,he,p2']at hA;have ht:=nY _ _ _ _ _ _ _ _ _ hA hA';have haa:a=a':=by have:=DJ (CL w) ht;rw[Fb,Fb]at this;exact this
  subst haa;rcases Fq j j' with g|g|g
  .have:=(hrows a ha).row j j' x x' g hx hx';omega
  .subst g;rw[hx]at hx';cases hx';rfl
  .have:=(hrows a ha).row j' j x' x g hx' hx;omega
 obtain⟨f,hf⟩:∃f:Nat->Nat,∀p q y,(∃t,t≠w/\B6 N (U t) p q y)->∃(a j:tyN) (x:SS),a<k/\(rows a)[j]?=some x/\x.r.b=p/\x.r.e=q/\y=B4 x.r.x top/\f p<=(U w).length/\x.r.x=X (f p)/\(∀(i:tyN) (u:Ch),(U w)[i]?=some u->i<f p->u.fb<x.r.de)/\x.r.de<=q/\q<N:=by
  refine⟨λp=>if hp:∃(F a j:tyN) (x:SS),a<k/\(rows a)[j]?=some x/\x.r.b=p/\F<=(U w).length/\x.r.x=X F then Classical.choose hp else 0,λp q y hy=>?_⟩;obtain⟨a,j,x,F,ha,h1,h2,h3,h4,h5,h6,h7,h8⟩:=hrd p q y hy;have hp:∃(F a j:tyN) (x:SS),a<k/\(rows a)[j]?=some x/\x.r.b=p/\F<=(U w).length/\x.r.x=X F:=⟨F,a,j,x,ha,h1,h2,h5,h6⟩
  have e1:(if hp:∃(F a j:tyN) (x:SS),a<k/\(rows a)[j]?=some x/\x.r.b=p/\F<=(U w).length/\x.r.x=X F then Classical.choose hp else 0)=F:=by
   rw[IG hp];obtain⟨a',j',x',ha',k1,k2,k3,k4⟩:=Cg hp;have:=hone a j a' j' x x' ha ha' h1 k1 (h2.trans k2.symm);subst this;exact ACl _ _ k3 h5 (k4.symm.trans h6)
  refine⟨a,j,x,ha,h1,h2,h3,h4,?_⟩;dsimp only;rw[e1];exact⟨h5,h6,h7,h8⟩
 refine⟨f,λp q y hy=>?_,λp q y hy=>?_,λp q y hy i v hv hlt=>?_,λp q y hy i v hv hlt=>?_,λp q y p' q' y' hy hy' hlt=>?_⟩
 .obtain⟨a,j,x,ha,h1,h2,h3,h4,h5,h6,h7,h8⟩:=hf p q y hy;rw[Ca];exact h5
 .obtain⟨a,j,x,ha,h1,h2,h3,h4,h5,h6,h7,h8⟩:=hf p q y hy;rw[h4,h6];cases e:f p with
  |zero=>
   rw[X0];have hc:BC 0 0 4398046511104=0:=AQ;unfold B4;rw[hc,Int.zero_emod];rfl
  |succ m=>
   have G8:m<(U w).length:=J;have hm:=gG G8;rw[X1 m _ hm,(unpack_pack J htop (hwk _ (KD G8)).2).1,Bz (Ec hm)];rfl
 .obtain⟨a,j,x,ha,h1,h2,h3,h4,h5,h6,h7,h8⟩:=hf p q y hy;obtain⟨u,hu,rfl⟩:=UH hv;have:=h7 i u hu hlt;show u.fb<q;omega
 .obtain⟨a,j,x,ha,h1,h2,h3,h4,h5,h6,h7,h8⟩:=hf p q y hy;obtain⟨u,hu,rfl⟩:=UH hv;refine Sb.knows ha (n6 a j x h1) (by rw[Ca];exact h5) h6 (i:=i) (w:=⟨u.fb,u.e N⟩) (by rw[BY,hu];rfl) ?_;rw[h2];exact hlt
 .obtain⟨a,j,x,ha,h1,h2,h3,h4,h5,h6,h7,h8⟩:=hf p q y hy;obtain⟨a',j',x',ha',h1',h2',h3',h4',h5',h6',h7',h8'⟩:=hf p' q' y' hy';have hm:=Sb.mono ha ha' (n6 a j x h1) (n6 a' j' x' h1') J;rcases CR (f p') (f p)with g|g
  .have:=Sb.up _ _ g (by rw[Ca];exact h5);omega
  .exact g
theorem PK:∀(l:List (Int×Int)) (p:Int×Int),(∀q,q∈l->q.1<=(l.foldl Ct p).1)/\p.1<=(l.foldl Ct p).1/\((l.foldl Ct p=p/\∀q,q∈l->q.1<p.1)\/∃AC,l[AC]?=some (l.foldl Ct p)/\∀(j:tyN) (q:Int×Int),AC<j->l[j]?=some q->q.1<(l.foldl Ct p).1)
 |[],p=>⟨λq hq=>by(cases hq),In _,.inl ⟨rfl,λq hq=>by(cases hq)⟩⟩
 |x::l,p=>by
  obtain⟨h1,h2,h3⟩:=PK l (Ct p x);have hx:x.1<=(Ct p x).1/\p.1<=(Ct p x).1:=by unfold Ct;split<;>omega
  refine⟨λq hq=>?_,?_,?_⟩
  .show q.1<=(l.foldl Ct (Ct p x)).1;rcases BJ.1 hq with rfl|hq
   .omega
   .exact h1 q hq
  .show p.1<=(l.foldl Ct (Ct p x)).1;omega
  .show(l.foldl Ct (Ct p x)=p/\_)\/∃AC,(x::l)[AC]?=some (l.foldl Ct (Ct p x))/\∀(j:tyN) (q:Int×Int),AC<j->(x::l)[j]?=some q->q.1<(l.foldl Ct (Ct p x)).1;rcases h3 with⟨h3,h4⟩|⟨AC,h3,h4⟩
   .by_cases hpx:p.1<=x.1
    .have e:Ct p x=x:=AK hpx;rw[e]at h3 h4
     right
     refine⟨0,by rw[e,h3];rfl,λj q hj hq=>?_⟩;obtain⟨j,rfl⟩:∃i,j=i+1:=⟨j-1,J⟩;rw[e,h3];exact h4 q (BI (Cw hq))
    .have e:Ct p x=p:=AI hpx;rw[e]at h3 h4
     left
     refine⟨by rw[e];exact h3,λq hq=>?_⟩;rcases BJ.1 hq with rfl|hq
     .omega
     .exact h4 q hq
   .right
    refine⟨AC+1,by simpa using h3,λj q hj hq=>?_⟩;obtain⟨j,rfl⟩:∃i,j=i+1:=⟨j-1,J⟩;exact h4 j q J (Cw hq)
structure aQ (N n:tyN)(Kc Ik:Nat->Nat->Prop)(b de e:Nat->Nat->Nat)(F:Nat->Nat->Nat->Nat)(S:Nat->Nat->Int)(s:Nat->Nat->Int)(own:Nat->Nat->Nat):Prop where
 O7:∀t i,Kc t i->t<n/\b t i<de t i/\de t i<=e t i
 S0:∀j,S j 0=0
 wr:∀t i,Kc t i->Ik t i->S t (own t i+1)=s t i
 st:∀t i,Kc t i->Ik t i->(∀j,j<n->S j (F t i j)<s t i)
 mine:∀t i,Kc t i->F t i t=own t i
 up:∀j (x y:tyN),j<n->x<=y->(∃t i,Kc t i/\(y<=F t i j\/(t=j/\Ik t i/\y<=own t i+1)))->S j x<=S j y
 mono:∀t i t' i',Kc t i->Kc t' i'->e t i<b t' i'->e t i<N->∀j,j<n->F t i j<=F t' i' j
 over:∀t i t' i',Kc t i->Kc t' i'->e t i<b t' i'->e t i<N->Ik t i->own t i<F t' i' t
section
variable {N n:tyN}{Kc Ik:Nat->Nat->Prop}{b de e:Nat->Nat->Nat}{F:Nat->Nat->Nat->Nat}{S:Nat->Nat->Int}{s:Nat->Nat->Int}{own:Nat->Nat->Nat}
def GB (n:tyN)(s:tyI)(j:tyN):Int:=s*(n:tyI)+(j:tyI)
theorem M8{n j j':tyN}{s s':tyI}(hj:j<n)(hs:s<s'):GB n s j<GB n s' j':=by
 unfold GB;have:=TQ (show s+1<=s' by omega) (show 0<=(n:tyI) by omega);rw[Int.add_mul,Int.one_mul]at this;omega
theorem VT{n j:tyN}{s s':tyI}(hs:s<=s'):GB n s j<=GB n s' j:=by
 unfold GB;have:=TQ hs (show 0<=(n:tyI) by omega);omega
theorem mC{n j j':tyN}{s s':tyI}(hj:j<n)(hj':j'<n)(h:GB n s j=GB n s' j'):s=s'/\j=j':=by
 rcases Int.lt_trichotomy s s' with g|g|g
 .have:=M8 (j':=j') hj g;omega
 .subst g;unfold GB at h;exact⟨rfl,J⟩
 .have:=M8 (j':=j) hj' g;omega
theorem aQ.mG(h:aQ N n Kc Ik b de e F S s own){t':tyN}(hd:Kc t i)(hd':Kc t' i')(hw:Ik t' i')(hlt:e t i<b t' i')(he:e t i<N):
  (∀j,j<n->GB n (S j (F t i j)) j<GB n (s t' i') t')/\(Ik t i->GB n (s t i) t<GB n (s t' i') t'):=by
 have key:∀j x,j<n->x<=F t' i' j->S j x<s t' i':=λj x hj hx=>by
  have h1:=h.st t' i' hd' hw j hj;have h2:=h.up j x _ hj hx ⟨t',i',hd',.inl (A9 _)⟩;omega
 refine⟨λj hj=>M8 hj (key j _ hj (h.mono t i t' i' hd hd' hlt he j hj)),λhw0=>?_⟩;have ht:=(h.O7 t i hd).1;have h3:=h.over t i t' i' hd hd' hlt he hw0;have h4:=key t (own t i+1) ht h3;rw[h.wr t i hd hw0]at h4;exact M8 ht h4
theorem aQ.rD(h:aQ N n Kc Ik b de e F S s own){t':tyN}(hd:Kc t i)(hd':Kc t' i')(hlt:e t i<b t' i')(he:e t i<N):
  (∀j,j<n->GB n (S j (F t i j)) j<=GB n (S j (F t' i' j)) j)/\(Ik t i->GB n (s t i) t<=GB n (S t (F t' i' t)) t):=by
 refine⟨λj hj=>VT (h.up j _ _ hj (h.mono t i t' i' hd hd' hlt he j hj) ⟨t',i',hd',.inl (A9 _)⟩),λhw0=>?_⟩;have ht:=(h.O7 t i hd).1;have h3:=h.over t i t' i' hd hd' hlt he hw0;rw[<-h.wr t i hd hw0];exact VT (h.up t _ _ ht h3 ⟨t',i',hd',.inl (A9 _)⟩)
theorem aQ.uniq(h:aQ N n Kc Ik b de e F S s own)(hd:Kc t i)(hd':Kc t i')(hw:Ik t i)(hw':Ik t i')(hown:own t i<own t i'):s t i<s t i':=by
 have ht:=(h.O7 t i hd).1;have h1:=h.st t i' hd' hw' t ht;rw[h.mine t i' hd']at h1;have h2:=h.up t (own t i+1) (own t i') ht hown ⟨t,i',hd',.inr ⟨rfl,hw',J⟩⟩;rw[h.wr t i hd hw]at h2;omega
end
theorem R4{g:AD->Op Int}{b lo:tyI}{n me:tyN}{top:tyI}(hi:0<=BD lo n me+1/\BD lo n me+1<32768):∀(js:List Nat) {p:Int×Int} {k:Int×Int->Op Int} {o':Op Int} {l l':tyL} {at':tyN} {L:List Item} {K:List Ch},(∀j,j∈js->j≠me->(g (1,AO b n j,0)).keeps (BD lo n me+1))->
  DE g (Hr b lo n me top js p k) l at' L K o' l'->Seq at' L->
  ((∀u,u∈K->u.a.1=1/\∃j,j∈js/\j≠me/\u.a.2.1=AO b n j)/\∀v,o'≠ .ret v)\/
  ∃(K1 K2:List Ch) (L1 L2:List Item) (l1 xs:tyL),K=K1++K2/\L=L1++L2/\xs.length=js.length/\(∀u,u∈K1->u.a.1=1/\(∃j,j∈js/\j≠me/\u.a.2.1=AO b n j)/\AM u.lo u.its<=AM at' L1)/\
   (∀(i j:tyN),js[i]?=some j->∃x,xs[i]?=some x/\(j=me->x=Ac l (BD lo n me+1))/\(j≠me->∃u,u∈K1/\u.a=(1,AO b n j,0)/\u.res=some x))/\
   DE g (k ((xs.map (DO top)).foldl Ct p)) l1 (AM at' L1) L2 K2 o' l'/\Ac l1 (BD lo n me+1)=Ac l (BD lo n me+1)
 |[],p,k,o',l,l',at',L,K,hg,h,hs=> .inr ⟨[],K,[],L,l,[],rfl,rfl,rfl,λu hu=>by(cases hu),λi j hj=>by simp at hj,h,rfl⟩
 |j::js,p,k,o',l,l',at',L,K,hg,h,hs=>by
  unfold Hr at h;by_cases hj:j=me
  .rw[AK hj]at h;rcases h.Ed with⟨rfl,rfl,hn⟩|h2
   .exact .inl ⟨λu hu=>by(cases hu),hn⟩
   rcases R4 hi js (λj' hj'=>hg j' (.tail _ hj')) h2 hs with⟨e1,hn⟩|⟨K1,K2,L1,L2,l1,xs,e1,e2,e3,e4,e5,e6,e7⟩
   .exact .inl ⟨λu hu=>by obtain⟨q1,j',q2,q3⟩:=e1 u hu;exact⟨q1,j',.tail _ q2,q3⟩,hn⟩
   .refine .inr ⟨K1,K2,L1,L2,l1,Ac l (BD lo n j+1)::xs,e1,e2,by simpa using e3,λu hu=>?_,λi j' hi'=>?_,e6,e7⟩
    .obtain⟨q1,⟨j',q2,q3⟩,q4⟩:=e4 u hu;exact⟨q1,⟨j',.tail _ q2,q3⟩,q4⟩
    .cases i with
     |zero=>
      have:j=j':=by simpa using hi'
      subst this;exact⟨_,rfl,λ_=>by rw[hj],λq=>absurd hj q⟩
     |succ i=>
      obtain⟨x,q1,q2⟩:=e5 i j' (Cw hi');exact⟨x,by simpa using q1,q2⟩
  .rw[AI hj]at h;rcases h.Ba with⟨rfl,rfl,hn⟩|⟨o1,rfl,_,_,_,hn⟩|⟨L1,L2,K2,l1,x,hK,hL,hp,hd⟩
   .exact .inl ⟨λu hu=>by(cases hu),hn⟩
   .exact .inl ⟨λu hu=>by rw[Bq.1 hu];exact⟨rfl,j,.head _,hj,rfl⟩,hn⟩
   subst hK;subst hL;obtain⟨s1,s2⟩:=Seq.append.1 hs;have hk:Ac l1 (BD lo n me+1)=Ac l (BD lo n me+1):=hp.keeps hi (hg j (.head _) hj);rcases R4 hi js (λj' hj'=>hg j' (.tail _ hj')) hd s2 with⟨e1,hn⟩|⟨K3,K4,L3,L4,l3,xs,e1,e2,e3,e4,e5,e6,e7⟩
   .refine .inl ⟨λu hu=>?_,hn⟩;rcases BJ.1 hu with rfl|hu
    .exact⟨rfl,j,.head _,hj,rfl⟩
    .obtain⟨q1,j',q2,q3⟩:=e1 u hu;exact⟨q1,j',.tail _ q2,q3⟩
   .refine .inr ⟨_::K3,K4,L1++L3,L4,l3,x::xs,by rw[e1];rfl,by rw[e2,Jt],by simpa using e3,λu hu=>?_,λi j' hi'=>?_,by rw[AY];exact e6,e7.trans hk⟩
    .rw[AY];rcases BJ.1 hu with rfl|hu
     .refine⟨rfl,⟨j,.head _,hj,rfl⟩,?_⟩;rw[e2]at s2;exact Seq.A7 (Seq.append.1 s2).1
     .obtain⟨q1,⟨j',q2,q3⟩,q4⟩:=e4 u hu;exact⟨q1,⟨j',.tail _ q2,q3⟩,q4⟩
    .cases i with
     |zero=>
      have:j=j':=by simpa using hi'
      subst this;exact⟨x,rfl,λq=>absurd q hj,λ_=>⟨_,.head _,rfl,rfl⟩⟩
     |succ i=>
      obtain⟨y,q1,q2,q3⟩:=e5 i j' (Cw hi');exact⟨y,by simpa using q1,λq=>by rw[q2 q,hk],λq=>by obtain⟨u,r1,r2⟩:=q3 q;exact⟨u,.tail _ r1,r2⟩⟩
theorem cY(hn:2<=n):1<=EC n:=by
 unfold EC;exact Nat.mul_pos (show 0<n-1 by omega) J
theorem OQ(hn:2<=n):qj b n (AO b n j)=j:=by
 unfold qj AO;have:(b+16*((j*EC n:tyN):tyI)-b)/16=((j*EC n:tyN):tyI):=J;rw[this,Gl,Nat.mul_div_cancel _ (cY hn)]
theorem Me{j':tyN}(hn:2<=n)(h:AO b n j=AO b n j'):j=j':=by
 rw[<-OQ (b:=b) (j:=j) hn,h,OQ hn]
theorem LJ(hn:2<=n)(h:a.2.1=AO b n j):Q5 b lo n top t a=RX (AO b n j) (BD lo n j) n j (ET top) t a:=by
 unfold Q5;rw[h,OQ hn]
theorem Wi{x:tyI}{cs:tyL}{k:Op Int}(h:cs≠[]):CA (De x cs k):=by
 cases cs with
 |nil=>exact absurd rfl h
 |cons c cs=>exact⟨_,_,rfl⟩
theorem rA(x:tyI):RX b lo n w top t a≠ .ret x:=by
 unfold RX jO;split
 .exact(JQ (Fs b lo) ⟨_,_,rfl⟩).ask x
 .exact λe=>by cases e
theorem OR{i:tyI}(hn:2<=n)(ht:t<n)(hw:w<n)(h:i<lo\/lo+(2+18*((EC n:tyN):tyI))<=i\/i=lo+1)(ha:t=w↔a.1≠1):(RX b lo n w top t a).keeps i/\(RX b lo n w top t a).all λa'=>b<=a'.2.1/\a'.2.1<b+16*((EC n:tyN):tyI):=by
 have num:∀(m:tyN) (q:AD),m<EC n->q.2.1=b+16*(m:tyI)->(MH b lo q).keeps i/\(MH b lo q).all λa'=>b<=a'.2.1/\a'.2.1<b+16*((EC n:tyN):tyI):=λm q hm hq=>by
  rw[If m hq];exact⟨OY J _,dK (λa' h1 h2=>J) _⟩
 have hk:n-1<=EC n:=Yh _ J;unfold RX jO;split
 .rename_i h1;have hne:t≠w:=λe=>(ha.1 e) h1
  have hr:=NH hw ht hne
  have hall:∀Q:AD->Prop,(∀q m,m<EC n->q.2.1=b+16*(m:tyI)->Q q)->(MF b (n-1) (CL w t) top).all Q:=λQ hQ=>Qs λq hq=>by
   rcases hq with⟨_,e|⟨c,h1,h2,e⟩⟩|⟨_,c,h1,h2,e⟩
   .exact hQ q _ J e
   .exact hQ q _ (D3 h1 hr (λq=>h2 q.symm)).2 e
   .exact hQ q _ (D3 hr h1 h2).2 e
  exact⟨FL _ RK (hall _ λq m h1 h2=>(num m q h1 h2).1),Ic _ (hall _ λq m h1 h2=>(num m q h1 h2).2)⟩
 .have hall:∀Q:AD->Prop,(∀q m,m<EC n->q.2.1=b+16*(m:tyI)->Q q)->(R1 b lo (n-1) top a.2.2).all Q:=λQ hQ=>SB λc x hc=>hQ _ c J rfl
  exact⟨FL _ (RT J) (hall _ λq m h1 h2=>(num m q h1 h2).1),Ic _ (hall _ λq m h1 h2=>(num m q h1 h2).2)⟩
def Fu (o:Op Int):Prop:= ∀(l l':tyL) (L:List Item) (o':Op Int),Path o l L o' l'->(L=[]/\∀x,o'≠ .ret x)\/∃a b e x L',L= .acc a b e x::L'
theorem CA.busy(h:CA o):Fu o:=λl l' L o' hp=>by
 obtain⟨a,k,rfl⟩:=h;rcases hp.Ba with⟨e,q,_⟩|⟨b,e,x,L',e',_⟩
 .exact .inl ⟨e,λx e2=>by rw[q]at e2;cases e2⟩
 .exact .inr ⟨a,b,e,x,L',e'⟩
theorem Fu.get{i:tyI}{k:Int->Op Int}(h:∀x,Fu (k x)):Fu (.get i k):=λl l' L o' hp=>by
 rcases hp.Rw with h2|h2
 .exact .inl h2
 .exact h _ _ _ _ _ h2
theorem Fu.set{i v:tyI}{k:Op Int}(h:Fu k):Fu (.set i v k):=λl l' L o' hp=>by
 rcases hp.Nf with h2|h2
 .exact .inl h2
 .exact h _ _ _ _ h2
theorem Fu.some(h:Fu o){x:tyI}(hp:Path o l L (.ret x) l'):L≠[]:=by
 rcases h _ _ _ _ hp with⟨_,hn⟩|⟨a,b,e,y,L',rfl⟩
 .exact absurd rfl (hn x)
 .simp
theorem Fu.places(h:Fu o){o':Op Int}(hp:Path o l L o' l')(h0:L≠[]){lo:tyN}(hs:Seq lo L):lo<DR lo L/\DR lo L<AM lo L:=by
 rcases h _ _ _ _ hp with⟨e,_⟩|⟨a,b,e,y,L',rfl⟩
 .exact absurd e h0
 .exact⟨hs.1,B5 hs.2.1 (Seq.A7 (L:=L') hs.2.2)⟩
theorem Fu.first{f:AD->Op Int}(hf:Fu (f u.a))(hp:Path (f u.a) u.l u.its o u.l')(hne:u.its≠[]):∃a e x,Item.acc a u.fb e x∈u.its:=by
 rcases hf _ _ _ _ hp with⟨e,_⟩|⟨a,b,e,y,L',q⟩
 .exact absurd e hne
 .have e2:u.fb=b:=by unfold Ch.fb;rw[q];rfl
  exact⟨a,e,y,by rw[e2,q];exact .head _⟩
theorem Bk.busy{f:AD->Op Int}{rg:Int->Prop}{N:tyN}:∀{U:List Ch} {lo:tyN} {σ:Int->Int},Bk f rg N lo σ U->(∀u,u∈U->Fu (f u.a))->
  (∀u,u∈U->lo<=AM u.lo u.its/\AM u.lo u.its<=N/\(u.its≠[]->lo<u.fb/\u.fb<AM u.lo u.its)/\(∀x,u.res=some x->u.its≠[]))/\∀(j k:tyN) (u v:Ch),j<k->U[j]?=some u->U[k]?=some v->v.its≠[]->AM u.lo u.its<v.fb
 |[],lo,σ,h,hf=>⟨λu hu=>by(cases hu),λj k u v _ hu=>by simp at hu⟩
 |u::U,lo,σ,h,hf=>by
  obtain⟨h1,h2,h3,h4,⟨o,h5,h5'⟩,h6,h7⟩:=h;obtain⟨g1,g2⟩:=Bk.busy h7 λw hw=>hf w (.tail _ hw)
  have hl:=Seq.A7 h2;refine⟨λv hv=>?_,λj k v w hjk hv hw hne=>?_⟩
  .rcases BJ.1 hv with rfl|hv
   .refine⟨J,h3,λhne=>?_,λx hx=>?_⟩
    .have:=(hf _ (.head _)).places h5 hne h2;exact⟨Ro h1 this.1,this.2⟩
    .have:=h5' x hx;subst this;exact(hf _ (.head _)).some h5
   .obtain⟨q1,q2,q3,q4⟩:=g1 v hv;exact⟨J,q2,λhne=>⟨by have:=(q3 hne).1;omega,(q3 hne).2⟩,q4⟩
  .obtain⟨k,rfl⟩:∃i,k=i+1:=⟨k-1,J⟩;have hw':U[k]?=some w:=by simpa using hw
   cases j with
   |zero=>
    simp at hv;subst hv;exact((g1 w (BI hw')).2.2.1 hne).1
   |succ j=>exact g2 j k v w J (Cw hv) hw' hne
theorem DE.busy{α:Type}{g:AD->Op Int}{o o':Op α}{lo:tyN}{K:List Ch}(h:DE g o l lo L K o' l')(hg:o.all λa=>Fu (g a)):∀w,w∈K->∃a b e x L',w.its= .acc a b e x::L':=by
 induction h with
 |nil=>intro w hw;cases hw
 |get _ ih=>exact ih (hg _)
 |set _ ih=>exact ih hg
 |live _ ih=>exact ih (hg _)
 |note p _ ih=>exact ih hg
 | @ask a k l l1 l' lo L1 L K o' x h1 _ ih=>
  intro w hw;rcases BJ.1 hw with rfl|hw
  .rcases hg.1 _ _ _ _ h1 with⟨_,hn⟩|q
   .exact absurd rfl (hn x)
   .exact q
  .exact ih (hg.2 _) w hw
 | @stop a k l l1 lo L1 o1 h1 hn h0=>
  intro w hw;rw[Bq.1 hw];rcases hg.1 _ _ _ _ h1 with⟨e,_⟩|q
  .exact absurd e h0
  .exact q
theorem DE.rC{α:Type}{g:AD->Op Int}{o o':Op α}{K:List Ch}(h:DE g o l u.lo u.its K o' l')(hg:o.all λa=>Fu (g a))(hs:Seq u.lo u.its):∀w,w∈K->u.fb<=w.fb/\w.lo<w.fb/\w.fb<AM w.lo w.its:=λw hw=>by
 obtain⟨a,b,e,x,L',q⟩:=h.busy hg w hw;have:=cF hs a b e x (h.acc.2 ⟨w,hw,by rw[q];exact .head _⟩);have e2:w.fb=b:=by unfold Ch.fb;rw[q];rfl
 have hw2:=(h.within hs w hw).2.1;rw[q]at hw2;rw[e2];refine⟨this,hw2.1,?_⟩;rw[q];exact B5 hw2.2.1 (Seq.A7 (L:=L') hw2.2.2)
theorem LK(hn:2<=n):Fu (RX b lo n w top t a):=by
 unfold RX jO;split
 .exact(JQ (Fs b lo) ⟨_,_,rfl⟩).busy
 .refine Fu.get λs=>Fu.set (CA.busy (JQ (Fs b lo) (Wi ?_)))
  intro e;have:=DJ List.length e;simp at this;omega
end
end Go.Proofs.YtpodgcpkccpnfaaGreat
