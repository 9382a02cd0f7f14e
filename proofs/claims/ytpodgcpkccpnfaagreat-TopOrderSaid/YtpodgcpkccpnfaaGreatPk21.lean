import Derived.Test.YtpodgcpkccpnfaaGreatPk20
set_option linter.unusedVariables false
set_option linter.unusedSimpArgs false
set_option maxRecDepth 20000
set_option maxHeartbeats 40000000
namespace Go.Proofs.YtpodgcpkccpnfaaGreat
variable{g:AD->Op Int}{b i lo:Int}{rg:Int->Prop}{K:List Ch}{l l':List Int}{L:List Item}{N a j k:Nat}
section
open Go.RowKit
theorem Bk.order{f:AD->Op Int}(hf:∀a,CA (f a)){rg:Int->Prop}{N:tyN}:∀{U:List Ch} {lo:tyN} {σ:Int->Int},Bk f rg N lo σ U->
  (∀u,u∈U->lo<=AM u.lo u.its/\AM u.lo u.its<=N/\(u.its≠[]->lo<u.fb/\u.fb<AM u.lo u.its)/\(∀x,u.res=some x->u.its≠[]))/\∀(j k:tyN) (u v:Ch),j<k->U[j]?=some u->U[k]?=some v->v.its≠[]->AM u.lo u.its<v.fb
 |[],lo,σ,h=>⟨λu hu=>by(cases hu),λj k u v _ hu=>by simp at hu⟩
 |u::U,lo,σ,h=>by
  obtain⟨h1,h2,h3,h4,⟨o,h5,h5'⟩,h6,h7⟩:=h;obtain⟨g1,g2⟩:=Bk.order hf h7;have hl:=Seq.A7 h2;refine⟨λv hv=>?_,λj k v w hjk hv hw hne=>?_⟩
  .rcases BJ.1 hv with rfl|hv
   .refine⟨J,h3,λhne=>?_,λx hx=>?_⟩
    .have:=(hf _).places h5 hne h2;exact⟨Ro h1 this.1,this.2⟩
    .have:=h5' x hx;subst this;exact(hf _).some h5
   .obtain⟨q1,q2,q3,q4⟩:=g1 v hv;exact⟨J,q2,λhne=>⟨by have:=(q3 hne).1;omega,(q3 hne).2⟩,q4⟩
  .obtain⟨k,rfl⟩:∃i,k=i+1:=⟨k-1,J⟩;have hw':U[k]?=some w:=by simpa using hw
   cases j with
   |zero=>
    simp at hv;subst hv;exact((g1 w (BI hw')).2.2.1 hne).1
   |succ j=>exact g2 j k v w J (Cw hv) hw' hne
theorem Bk.rd{f:AD->Op Int}(hf:∀a,CA (f a)){U:List Ch}{lo:tyN}{σ:Int->Int}(h:Bk f rg N lo σ U):
  (∀b e x,B6 N U b e x->b<e/\e<N)/\∀b e x e' x',B6 N U b e x->B6 N U b e' x'->e=e'/\x=x':=by
 obtain⟨g1,g2⟩:=h.order hf;have he:∀(u:Ch) x,u.res=some x->u.e N=AM u.lo u.its:=λu x hx=>by unfold Ch.e;rw[hx]
 refine⟨λb e x ⟨u,q1,q2,q3,q4,q5⟩=>?_,λb e x e' x' ⟨u,q1,q2,q3,q4,q5⟩ ⟨v,r1,r2,r3,r4,r5⟩=>?_⟩
 .obtain⟨_,_,k3,k4⟩:=g1 u q1;have:=(k3 (k4 x q4)).2;rw[he u x q4]at q3;exact⟨J,q5⟩
 .have huv:u=v:=by
   obtain⟨j,hj,ej⟩:=Dj q1;obtain⟨k,hk,ek⟩:=Dj r1;have hj':U[j]?=some u:=by rw[gG hj,ej]
   have hk':U[k]?=some v:=by rw[gG hk,ek]
   have pu:=((g1 u q1).2.2.1 ((g1 u q1).2.2.2 x q4)).2;have pv:=((g1 v r1).2.2.1 ((g1 v r1).2.2.2 x' r4)).2;rcases Fq j k with q|q|q
   .have:=g2 j k u v q hj' hk' ((g1 v r1).2.2.2 x' r4);omega
   .subst q;rw[hj']at hk';cases hk';rfl
   .have:=g2 k j v u q hk' hj' ((g1 u q1).2.2.2 x q4);omega
  subst huv;rw[q4]at r4;cases r4;exact⟨q3.symm.trans r3,rfl⟩
def sL (s q:tyI):List (Em×Bool)->Nat->Int
 |_,0=>s
 |[],_+1=>s
 |o::os,n+1=>sL (if o.1.p=q then o.1.i else s) q os n
theorem Lh(s q:tyI)(os:List (Em×Bool)):sL s q os 0=s:=by cases os<;>rfl
theorem U8(q:tyI):∀(os:List (Em×Bool)) (s:tyI) (n:tyN) (o:Em×Bool),os[n]?=some o->sL s q os (n+1)=if o.1.p=q then o.1.i else sL s q os n
 |[],s,n,o,h=>by simp at h
 |o'::os,s,0,o,h=>by
  have:o'=o:=by simpa using h
  subst this;show sL _ q os 0=_;rw[Lh,Lh]
 |o'::os,s,n+1,o,h=>by
  show sL _ q os (n+1)=_;rw[U8 q os _ n o (Cw h)];rfl
theorem T7(q:tyI)(os:List Em)(n:tyN):Nu q os (n+1)=if(os.getD n JT).p=q then(os.getD n JT).i else Nu q os n:=rfl
theorem fW(q i:tyI)(os:List Em)(n:tyN):U1 q i os (n+1)=if(os.getD n JT).p=q/\(os.getD n JT).i=i then(os.getD n JT).v else U1 q i os n:=rfl
theorem Ve(q:tyI){os:List (Em×Bool)}:∀n,n<=os.length->sL 0 q os n=Nu q (os.map (·.1)) n
 |0,_=>Lh _ _ _
 |n+1,h=>by
  have hn:os[n]?=some os[n]:=gG h;rw[U8 q os 0 n _ hn,Ve q n J,T7,Ai (show(os.map (·.1))[n]?=some (os[n]).1 by rw[BY,hn];rfl)]
def gL (g:tyI):List (Em×Bool)->Nat->Int
 |_,0=>g
 |[],_+1=>g
 |o::os,n+1=>gL o.1.p os n
theorem VH(g:tyI)(os:List (Em×Bool)):gL g os 0=g:=by cases os<;>rfl
theorem cS:∀(os:List (Em×Bool)) (g:tyI) (n:tyN) (o:Em×Bool),os[n]?=some o->gL g os (n+1)=o.1.p
 |[],g,n,o,h=>by simp at h
 |o'::os,g,0,o,h=>by
  have:o'=o:=by simpa using h
  subst this;exact VH _ _
 |o'::os,g,n+1,o,h=>cS os _ n o (Cw h)
theorem yi.facts{N:tyN}:∀{os:List (Em×Bool)} {lo:tyN} {s0 s1 g:tyI},yi N lo s0 s1 g os->(∀(k:tyN) (o:Em×Bool),os[k]?=some o->lo<o.1.yb/\(o.1.yb<o.1.ye/\o.1.ye<o.1.db/\o.1.db<o.1.de/\o.1.de<=o.1.sb/\o.1.sb<=o.1.se/\o.1.se<=o.1.lb/\o.1.lb<=o.1.le/\o.1.le<=N)/\(o.1.p=0\/o.1.p=1)/\
   o.1.i=Df (sL (if o.1.p=0 then s0 else s1) o.1.p os k)/\(o.2=false->o.1.p=gL g os k\/N<=o.1.lb))/\∀(j k:tyN) (o o':Em×Bool),j<k->os[j]?=some o->os[k]?=some o'->o.1.le<o'.1.yb
 |[],lo,s0,s1,g,h=>⟨λk o h=>by simp at h,λj k o o' _ h=>by simp at h⟩
 |p::os,lo,s0,s1,g,h=>by
  obtain⟨h1,h2,h3,h4,h5⟩:=h;obtain⟨g1,g2⟩:=yi.facts h5;refine⟨λk o ho=>?_,λj k o o' hjk ho ho'=>?_⟩
  .cases k with
   |zero=>
    have:p=o:=by simpa using ho
    subst this;exact⟨h1.1,h1.2,h2,by rw[Lh];exact h3,λe=>by rw[VH];exact h4 e⟩
   |succ k=>
    obtain⟨q1,q2,q3,q4,q5⟩:=g1 k o (Cw ho);refine⟨J,q2,q3,?_,q5⟩;rw[q4];show Df _=Df (sL (if p.1.p=o.1.p then p.1.i else _) o.1.p os k);congr 2;rcases q3 with e|e<;>rcases h2 with e2|e2<;>simp[e,e2]
  .obtain⟨k,rfl⟩:∃i,k=i+1:=⟨k-1,J⟩;have ho2:os[k]?=some o':=by simpa using ho'
   cases j with
   |zero=>
    have:p=o:=by simpa using ho
    subst this;exact(g1 k o' ho2).1
   |succ j=>exact g2 j k o o' J (Cw ho) ho2
def rL (g:tyI):List (He×Bool)->Nat->Int
 |_,0=>g
 |[],_+1=>g
 |o::os,n+1=>rL o.1.p os n
theorem Uk(g:tyI)(os:List (He×Bool)):rL g os 0=g:=by cases os<;>rfl
theorem cU:∀(os:List (He×Bool)) (g:tyI) (n:tyN) (o:He×Bool),os[n]?=some o->rL g os (n+1)=o.1.p
 |[],g,n,o,h=>by simp at h
 |o'::os,g,0,o,h=>by
  have:o'=o:=by simpa using h
  subst this;exact Uk _ _
 |o'::os,g,n+1,o,h=>cU os _ n o (Cw h)
theorem yl.facts{N:tyN}:∀{rs:List (He×Bool)} {lo:tyN} {g:tyI},yl N lo g rs->(∀(k:tyN) (r:He×Bool),rs[k]?=some r->lo<r.1.lb/\(r.1.lb<r.1.le/\r.1.le<N/\r.1.le<=r.1.rb/\r.1.rb<=r.1.re/\r.1.re<=r.1.sb/\r.1.sb<=r.1.se/\r.1.se<=r.1.db/\r.1.db<=r.1.de/\r.1.de<=N)/\(r.1.p=0\/r.1.p=1)/\(r.1.i=0\/r.1.i=1)/\
   (r.2=false->r.1.p=rL g rs k\/N<=r.1.rb))/\∀(j k:tyN) (r r':He×Bool),j<k->rs[j]?=some r->rs[k]?=some r'->r.1.de<r'.1.lb
 |[],lo,g,h=>⟨λk o h=>by simp at h,λj k o o' _ h=>by simp at h⟩
 |p::rs,lo,g,h=>by
  obtain⟨h1,h2,h3,h4,h5⟩:=h;obtain⟨g1,g2⟩:=yl.facts h5;refine⟨λk o ho=>?_,λj k o o' hjk ho ho'=>?_⟩
  .cases k with
   |zero=>
    have:p=o:=by simpa using ho
    subst this;exact⟨h1.1,h1.2,h2,h3,λe=>by rw[Uk];exact h4 e⟩
   |succ k=>
    obtain⟨q1,q2,q3,q4,q5⟩:=g1 k o (Cw ho);exact⟨J,q2,q3,q4,q5⟩
  .obtain⟨k,rfl⟩:∃i,k=i+1:=⟨k-1,J⟩;have ho2:rs[k]?=some o':=by simpa using ho'
   cases j with
   |zero=>
    have:p=o:=by simpa using ho
    subst this;exact(g1 k o' ho2).1
   |succ j=>exact g2 j k o o' J (Cw ho) ho2
def KN (N:tyN)(s q:tyI):List (Em×Bool)->List (WR×Bool)
 |[]=>[]
 |o::os=>(⟨if o.1.p=q then o.1.i else s,o.1.sb,o.1.se⟩,decide (o.1.p=q/\o.1.sb<N))::KN N (if o.1.p=q then o.1.i else s) q os
theorem Jm(N:tyN)(q:tyI):∀(os:List (Em×Bool)) (s:tyI),((KN N s q os).filter (·.2)).map (·.1)=(os.filter λo=>decide (o.1.p=q/\o.1.sb<N)).map λo=>⟨o.1.i,o.1.sb,o.1.se⟩
 |[],s=>rfl
 |o::os,s=>by
  show((_::KN N _ q os).filter _).map _=_;by_cases h:o.1.p=q/\o.1.sb<N
  .rw[I2 (by exact Fi h),I2 (by exact Fi h),Gf,Gf,Jm N q os,AK h.1]
  .rw[FY (by simp only[Fc];exact h),FY (by simp only[Fc];exact h),Jm N q os]
theorem JW(N:tyN)(q:tyI):∀(os:List (Em×Bool)) (s:tyI) (k:tyN),(KN N s q os)[k]?=(os[k]?).map λo=>(⟨sL s q os (k+1),o.1.sb,o.1.se⟩,decide (o.1.p=q/\o.1.sb<N))
 |[],s,k=>by simp[KN]
 |o::os,s,0=>by
  show some _=some _;congr 2;show _=WR.mk (sL _ q os 0) _ _;rw[Lh]
 |o::os,s,k+1=>by
  show(KN N _ q os)[k]?=(os[k]?).map _;rw[JW N q os _ k];rfl
theorem Oy(N:tyN)(q:tyI):∀(os:List (Em×Bool)) (s:tyI),(KN N s q os).length=os.length
 |[],s=>rfl
 |o::os,s=>DJ (· +1) (Oy N q os _)
theorem Tq{q:tyI}{os:List (Em×Bool)}(h:k<=os.length):EI ((KN N 0 q os).map (·.1)) k=sL 0 q os k:=by
 cases k with
 |zero=>exact(Lh _ _ _).symm
 |succ k=>
  have hk:os[k]?=some os[k]:=gG h;exact Bz (w:=⟨sL 0 q os (k+1),_,_⟩) (by rw[BY,JW,hk];rfl)
theorem QM{P:List (WR×Bool)}{n:tyN}{w:WR}(hn:n<=P.length)(hw:((P.filter (·.2)).map (·.1))[j]?=some w):(j<Fx P n->∃i,i<n/\P[i]?=some (w,true))/\(Fx P n<=j->∃i,n<=i/\P[i]?=some (w,true)):=by
 have hsplit:P.filter (·.2)=(P.take n).filter (·.2)++(P.drop n).filter (·.2):=by rw[<-IV,vY]
 rw[hsplit,Gu]at hw
 have hmem:∀(Q:List (WR×Bool)),w∈(Q.filter (·.2)).map (·.1)->(w,true)∈Q:=λQ h=>by
  obtain⟨p,h1,h2⟩:=Cd.1 h;obtain⟨h3,h4⟩:=Db.1 h1;have:p=(w,true):=by rw[<-h2,<-h4]
  rw[<-this];exact h3
 constructor
 .intro hj;rw[IC (by rw[Ca];exact hj)]at hw;obtain⟨i,hi,e⟩:=Dj (hmem _ (BI hw));rw[Ie]at hi;exact⟨i,J,by rw[<-l7 (show i<n by omega),gG (by rw[Ie];omega),e]⟩
 .intro hj;rw[Gb (by rw[Ca];exact hj)]at hw;obtain⟨i,hi,e⟩:=Dj (hmem _ (BI hw));exact⟨n+i,J,by rw[<-List.getElem?_drop,gG hi,e]⟩
def DK (q i:tyI)(os:List (Em×Bool)):List (WR×Bool):=os.map λo=>(⟨o.1.v,o.1.db,o.1.de⟩,decide (o.1.p=q/\o.1.i=i))
theorem UJ{q i:tyI}{os:List (Em×Bool)}:∀n,n<=os.length->EI (((DK q i os).filter (·.2)).map (·.1)) (Fx (DK q i os) n)=U1 q i (os.map (·.1)) n
 |0,_=>rfl
 |n+1,h=>by
  have hn:os[n]?=some os[n]:=gG h;have hp:(DK q i os)[n]?=some (⟨(os[n]).1.v,(os[n]).1.db,(os[n]).1.de⟩,decide ((os[n]).1.p=q/\(os[n]).1.i=i)):=by unfold DK;rw[BY,hn];rfl
  rw[fW,Ai (show(os.map (·.1))[n]?=some (os[n]).1 by rw[BY,hn];rfl),F8 hp];by_cases hc:(os[n]).1.p=q/\(os[n]).1.i=i
  .rw[AK hc];rw[Fi hc]at hp|-;rw[AK rfl];exact Bz (Nl hp)
  .rw[AI hc,DF hc,AI Az,LB];exact UJ n J
theorem Ua{Q:AD->Prop}(h:∀a:AD,(a.2.1=b+13\/a.2.1=b+10\/(∃q,(q=0\/q=1)/\a.2.1=b+(4+3*q))\/(b<=a.2.1/\a.2.1<b+4))->Q a)(a:AD):(cf b lo a).all Q:=by
 have hb:∀{b' lo' v:tyI} {k:Op Int},Q (2,b',v)->k.all Q->(lZ b' lo' v k).all Q:=λ{b' lo' v k} h1 h2=>by
  intro x;show Op.all Q (if _ then _ else _);split
  .exact h2
  .exact⟨h1,λ_=>h2⟩
 unfold cf;split
 .refine⟨h _ (.inr (.inl rfl)),λy=>hb (lo':=lo+14) (h _ (.inl rfl)) ⟨h _ (.inr (.inr (.inl ⟨CT y,IA y,rfl⟩))),λz=>⟨h _ (.inr (.inr (.inr ?_))),λ_=>trivial⟩⟩⟩;have:=IA y;have:=IA z;dsimp only;omega
 .refine⟨h _ (.inl rfl),λy s=>⟨h _ (.inr (.inr (.inr ?_))),λ_=>hb (lo':=lo+(2+4*Df y)) (h _ (.inr (.inr (.inl ⟨Df y,Ep y,rfl⟩)))) (hb (lo':=lo+10) (h _ (.inr (.inl rfl))) trivial)⟩⟩;have:=Ep y;have:=Ep s;dsimp only;omega
theorem UB(h:i<lo\/lo+2<=i)(a:AD):(cf b lo a).keeps i:=by
 have hb:∀{b' lo' v:tyI} {k:Op Int},k.keeps i->(lZ b' lo' v k).keeps i:=λ{b' lo' v k} h2=>by
  intro x;show Op.keeps i (if _ then _ else _);split
  .exact h2
  .exact λ_=>h2
 unfold cf;split
 .exact λy=>hb λz x=>trivial
 .refine λy s _=>⟨?_,hb (hb trivial)⟩
  have:=Ep y;omega
def PartOf (b lo c l:tyI):Prop:=(c=b+4/\l=lo+2)\/(c=b+7/\l=lo+6)\/(c=b+10/\l=lo+10)\/(c=b+13/\l=lo+14)
theorem Xj{c l:tyI}(hp:PartOf b lo c l){a:AD}(h:a.2.1=c):Pd b lo a=Ix c l a:=by
 rcases hp with⟨rfl,rfl⟩|⟨rfl,rfl⟩|⟨rfl,rfl⟩|⟨rfl,rfl⟩
 .exact Fj (q:=0) (.inl rfl) h
 .exact Fj (q:=1) (.inr rfl) h
 .exact Iq h
 .exact IT h
theorem R2(hlo:0<=lo/\lo+18<=32768){A:Nat->AD->Nat->Nat->Int->Prop}{cells:Int->Prop}{U:Nat->List Ch}(h:Wu (SR b lo) A N cells rg U)(hrg:∀i,lo<=i->i<lo+18->rg i)(hcs:∀c,b<=c->c<b+16->cells c):
  ∃W:Nat->List (Ch×List Ch),(∀t,(W t).map Prod.fst=U t)/\(∀t u K,(u,K)∈W t->u∈U t/\∃o' l',DE (Pd b lo) (cf b lo u.a) u.l u.lo u.its K o' l'/\∀v,u.res=some v->o'= .ret v/\l'=u.l')/\
   ∀c l,PartOf b lo c l->Wu (Ix c l) A N (λc'=>c<=c'/\c'<c+3) (λi=>l<=i/\i<l+4) λt=>part c (W t):=by
 obtain⟨W,w1,w2,w3⟩:=G1.parts (T:=λ_=>cf b lo) (g:=λ_=>Pd b lo) (λ_ a x=>(CE b lo a).ask x) h;refine⟨W,w1,w2,λc l hp=>?_⟩;have hcl:c=b+4\/c=b+7\/c=b+10\/c=b+13:=by rcases hp with⟨q,_⟩|⟨q,_⟩|⟨q,_⟩|⟨q,_⟩<;>omega
 have hll:l=lo+2+4*((c-b-4)/3):=by rcases hp with⟨q,q2⟩|⟨q,q2⟩|⟨q,q2⟩|⟨q,q2⟩<;>omega
 have other:∀(a:AD) c' l',PartOf b lo c' l'->a.2.1=c'->c'≠c->(∀i,l<=i/\i<l+4->(Pd b lo a).keeps i)/\(Pd b lo a).all λa'=> ¬(c<=a'.2.1/\a'.2.1<c+3):=λa c' l' hp' he hne'=>by
  rw[Xj hp' he];have h1:l'=lo+2+4*((c'-b-4)/3):=by rcases hp' with⟨q,q2⟩|⟨q,q2⟩|⟨q,q2⟩|⟨q,q2⟩<;>omega
  have h2:c'=b+4\/c'=b+7\/c'=b+10\/c'=b+13:=by rcases hp' with⟨q,_⟩|⟨q,_⟩|⟨q,_⟩|⟨q,_⟩<;>omega
  exact⟨λi hi=>D8 J _,NF (λa' q1 q2=>J) _⟩
 refine G1.fn (w3 _ _ (D9 c) (λc' h1=>hcs c' J J) (λi hi=>⟨hrg i J J,J⟩) λt u hu=>⟨λi hi=>UB J _,Ua (λa ha hon=>?_) _⟩) λt u hu=>Xj hp (by have:=(Db.1 hu).2;unfold D9 at this;simpa using this)
 have hne:a.2.1≠c:=by unfold D9 at hon;simpa using hon
 rcases ha with e|e|⟨q,hq,e⟩|⟨e1,e2⟩
 .exact other a _ _ (.inr (.inr (.inr ⟨rfl,rfl⟩))) e J
 .exact other a _ _ (.inr (.inr (.inl ⟨rfl,rfl⟩))) e J
 .rcases hq with rfl|rfl
  .exact other a (b+4) (lo+2) (.inl ⟨rfl,rfl⟩) J J
  .exact other a (b+7) (lo+6) (.inr (.inl ⟨rfl,rfl⟩)) J J
 .rw[Ge e2];exact⟨λi _ _=>trivial,J,λ_=>trivial⟩
theorem CP{α β:Type}{l:List (α×β)}{x:α}(h:(l.map (·.1))[k]?=some x):∃y,l[k]?=some (x,y):=by
 rw[BY]at h;cases e:l[k]? with
 |none=>rw[e]at h;cases h
 |some p=>rw[e]at h;cases h;exact⟨p.2,rfl⟩
theorem Zu(rs:List (He×Bool)):∀n,n<=rs.length->EI ((rs.map λo=>((⟨o.1.p,o.1.rb,o.1.re⟩,o.2):WR×Bool)).map (·.1)) n=Xs (rs.map (·.1)) n
 |0,_=>rfl
 |n+1,h=>by
  have hn:rs[n]?=some rs[n]:=gG h;rw[Bz (w:=⟨(rs[n]).1.p,(rs[n]).1.rb,(rs[n]).1.re⟩) (by rw[BY,BY,hn];rfl),OB (o:=(rs[n]).1) (by rw[BY,hn];rfl)]
theorem a9(os:List (Em×Bool)):∀n,n<=os.length->EI ((os.map λo=>((⟨o.1.p,o.1.lb,o.1.le⟩,o.2):WR×Bool)).map (·.1)) n=mB (os.map (·.1)) n
 |0,_=>rfl
 |n+1,h=>by
  have hn:os[n]?=some os[n]:=gG h;rw[Bz (w:=⟨(os[n]).1.p,(os[n]).1.lb,(os[n]).1.le⟩) (by rw[BY,BY,hn];rfl),QP (o:=(os[n]).1) (by rw[BY,hn];rfl)]
theorem Xd{q:tyI}{os:List Em}(h:∀(k:tyN) (o:Em),os[k]?=some o->o.i=0\/o.i=1):∀n,n<=os.length->Nu q os n=0\/Nu q os n=1
 |0,_=> .inl rfl
 |n+1,hn=>by
  rw[T7,Ai (gG hn)];split
  .exact h n _ (gG hn)
  .exact Xd h n J
theorem bZ{y:tyI}(h:y=0\/y=1):Df y=1-y:=by rcases h with rfl|rfl<;>rfl
theorem dG{y:tyI}(h:y=0\/y=1):CT y=y:=by rcases h with rfl|rfl<;>rfl
def Bo:Int:=1099511627776
theorem O3(hlo:0<=lo/\lo+18<=32768){A:Nat->AD->Nat->Nat->Int->Prop}{cells:Int->Prop}{U:Nat->List Ch}(h:Wu (SR b lo) A N cells rg U)(hrg:∀i,lo<=i->i<lo+18->rg i)(hcs:∀c,b<=c->c<b+16->cells c){w r:tyN}(hwr:w≠r)
  (hone:∀t,t≠w->t≠r->U t=[]) (hwk:∀u,u∈U w->u.a.1=2/\0<=u.a.2.2/\u.a.2.2<=Bo) (QG:∀u,u∈U r->u.a.1=1)
  (hs:∀c,b<=c->c<b+16->GH A N c (if c<b+4 then Bo else 1)):∃f,SW ((U w).map (Ch.wr N)) (B6 N (U r)) f:=by
 obtain⟨W,w1,w2,w3⟩:=R2 hlo h hrg hcs;obtain⟨os,o1,o2⟩:=XI hlo hrg (N:=N) (W w) (at':=0) (σ:=λ_=>0) (by rw[w1];exact h.uses w) (λu K hm=>(w2 w u K hm).2) (λu hu=>(hwk u (by rw[w1]at hu;exact hu)).1) (.inl rfl) (.inl rfl) rfl rfl;obtain⟨rs,r1,r2⟩:=YV hlo hrg (N:=N) (W r) (at':=0) (σ:=λ_=>0) (by rw[w1];exact h.uses r) (λu K hm=>(w2 r u K hm).2) (λu hu=>QG u (by rw[w1]at hu;exact hu))
 have hone':∀c t,t≠w->t≠r->part c (W t)=[]:=λc t h1 h2=>by
  have:W t=[]:=by
   have:=w1 t;rw[hone t h1 h2]at this;exact jk.1 this
  rw[this];rfl
 have Jb:∀(c:tyI) (t:tyN) (u:Ch),u∈part c (W t)->u.a.2.1=c/\u∈(W t).flatMap Prod.snd:=λc t u hu=>by
  obtain⟨q1,q2⟩:=Db.1 hu;exact⟨by unfold D9 at q2;simpa using q2,q1⟩
 have na:∀c,b+4<=c->c<b+16->GH A N c 1:=λc q1 q2=>by
  have:=hs c J q2;rw[AI J]at this;exact this
 have sw:∀c l,PartOf b lo c l->∀x y:Nat,x≠y->((x=w/\y=r)\/(x=r/\y=w))->(∀u,u∈part c (W x)->u.a.1=2/\(u.a.2.2=0\/u.a.2.2=1)/\Ac u.l l≠u.a.2.2/\u.a.2.1=c/\u.its≠[])->(∀u,u∈part c (W y)->u.a.1=1)->
   ∃f,SW ((part c (W x)).map (Ch.wr N)) (B6 N (part c (W y))) f:=λc l hp x y hxy ACL k1 k2=>by
  have hcl:c=b+4\/c=b+7\/c=b+10\/c=b+13:=by rcases hp with⟨q,_⟩|⟨q,_⟩|⟨q,_⟩|⟨q,_⟩<;>omega
  have hll:l=lo+2+4*((c-b-4)/3):=by rcases hp with⟨q,q2⟩|⟨q,q2⟩|⟨q,q2⟩|⟨q,q2⟩<;>omega
  refine Tt J (w3 c l hp) (λi q1 q2=>⟨q1,q2⟩) (λc' q1 q2=>⟨q1,q2⟩) hxy (λt q1 q2=>hone' c t ?_ ?_) k1 k2 (na _ J J) (na _ J J) (na _ J J)
  .rcases ACL with⟨e1,e2⟩|⟨e1,e2⟩<;>omega
  .rcases ACL with⟨e1,e2⟩|⟨e1,e2⟩<;>omega
 have i8:∀c l,PartOf b lo c l->∀t,(∀p e x,B6 N (part c (W t)) p e x->p<e/\e<N)/\∀p e x e' x',B6 N (part c (W t)) p e x->B6 N (part c (W t)) p e' x'->e=e'/\x=x':=λc l hp t=>((w3 c l hp).uses t).rd (GW c l)
 have UX:∀q,(q=0\/q=1)->PartOf b lo (b+(4+3*q)) (lo+(2+4*q)):=λq hq=>by
  rcases hq with rfl|rfl
  .exact .inl ⟨J,J⟩
  .exact .inr (.inl ⟨J,J⟩)
 have nc:PartOf b lo (b+10) (lo+10):= .inr (.inr (.inl ⟨rfl,rfl⟩));have ne:PartOf b lo (b+13) (lo+14):= .inr (.inr (.inr ⟨rfl,rfl⟩));obtain⟨oF,oN⟩:=o1.facts;obtain⟨rF,rN⟩:=r1.facts
 obtain⟨fL,hL⟩:∃f,SW ((os.map λo=>((⟨o.1.p,o.1.lb,o.1.le⟩,o.2):WR×Bool)).map (·.1)) (B6 N (part (b+10) (W r))) f:=by
  obtain⟨f,hf⟩:=sw _ _ nc w r hwr (.inl ⟨rfl,rfl⟩) (λu hu=>by
   obtain⟨q1,q2⟩:=Jb _ _ u hu;obtain⟨k1,k2,k3,k4⟩:=o2.ch u q2;exact⟨(k4 q1).1,(k4 q1).2.1,(k4 q1).2.2,q1,k1⟩) (λu hu=>by
   obtain⟨q1,q2⟩:=Jb _ _ u hu
   exact(r2.ch u q2).2.2.2 q1)
  rw[o2.mL]at hf
  have e1:((os.map λo=>((⟨o.1.p,o.1.lb,o.1.le⟩,o.2):WR×Bool)).filter (·.2)).map (·.1)=(os.filter λo=>o.2).map λo=>⟨o.1.p,o.1.lb,o.1.le⟩:=by
   rw[List.filter_map,WY];rfl
  rw[<-e1]at hf;refine hf.pad (N:=N) (i8 _ _ nc r).1 (λk v hk=>?_) (λj k s v hjk hj hk=>?_) (λv hv=>?_) λp e x e' x' q1 q2=>((i8 _ _ nc r).2 p e x e' x' q1 q2).1
  .rw[BY]at hk;cases ho:os[k]? with
   |none=>rw[ho]at hk;cases hk
   |some o=>
    rw[ho]at hk;have hk2:((⟨o.1.p,o.1.lb,o.1.le⟩,o.2):WR×Bool)=(v,false):=El hk;have e2:o.2=false:=DJ Prod.snd hk2;have e3:v=⟨o.1.p,o.1.lb,o.1.le⟩:=(DJ Prod.fst hk2).symm;rw[e3];refine((oF k o ho).2.2.2.2 e2).imp (λq=>?_) id;show o.1.p=_;rw[q];cases k with
    |zero=>rw[VH];rfl
    |succ k=>
     have hkl:k<os.length:=by have:=(Be.1 ho).1;omega
     have hk3:os[k]?=some os[k]:=gG hkl;rw[cS os 0 k _ hk3];exact(Bz (w:=⟨(os[k]).1.p,_,_⟩) (by rw[BY,BY,hk3];rfl)).symm
  .rw[BY]at hj hk;cases ho:os[j]? with
   |none=>rw[ho]at hj;cases hj
   |some o=>
    cases ho':os[k]? with
    |none=>rw[ho']at hk;cases hk
    |some o'=>
     rw[ho]at hj;rw[ho']at hk;cases hj;cases hk
     have:=oN j k o o' hjk ho ho';have:=(oF k o' ho').2.1;dsimp only;omega
  .obtain⟨o,ho,rfl⟩:=Cd.1 hv;obtain⟨k,hk,e⟩:=Dj ho;have:=(oF k o (by rw[gG hk,e])).2.1;dsimp only;omega
 have hS:∀q,(q=0\/q=1)->∃f,SW ((KN N 0 q os).map (·.1)) (B6 N (part (b+(4+3*q)) (W r))) f:=λq hq=>by
  obtain⟨f,hf⟩:=sw _ _ (UX q hq) w r hwr (.inl ⟨rfl,rfl⟩) (λu hu=>by
   obtain⟨q1,q2⟩:=Jb _ _ u hu;obtain⟨k1,k2,k3,k4⟩:=o2.ch u q2;have:=k3 q hq q1;exact⟨this.1,this.2.1,this.2.2,q1,k1⟩) (λu hu=>by
   obtain⟨q1,q2⟩:=Jb _ _ u hu
   exact(r2.ch u q2).2.2.1 q hq q1)
  rw[o2.slot q hq,<-Jm N q os 0]at hf;refine hf.pad (N:=N) (i8 _ _ (UX q hq) r).1 (λk v hk=>?_) (λj k s v hjk hj hk=>?_) (λv hv=>?_) λp e x e' x' q1 q2=>((i8 _ _ (UX q hq) r).2 p e x e' x' q1 q2).1
  .rw[JW]at hk;cases ho:os[k]? with
   |none=>rw[ho]at hk;cases hk
   |some o=>
    rw[ho]at hk;have hk2:((⟨sL 0 q os (k+1),o.1.sb,o.1.se⟩,decide (o.1.p=q/\o.1.sb<N)):WR×Bool)=(v,false):=El hk;have e2:¬(o.1.p=q/\o.1.sb<N):=lj (DJ Prod.snd hk2);have e3:v=⟨sL 0 q os (k+1),o.1.sb,o.1.se⟩:=(DJ Prod.fst hk2).symm;rw[e3];by_cases hpq:o.1.p=q
    .right
     show N<=o.1.sb;rcases CR o.1.sb N with g|g
     .exact absurd ⟨hpq,g⟩ e2
     .exact g
    .left
     show sL 0 q os (k+1)=_;rw[U8 q os 0 k o ho,AI hpq,Tq (by have:=(Be.1 ho).1;omega)]
  .rw[JW]at hj hk;cases ho:os[j]? with
   |none=>rw[ho]at hj;cases hj
   |some o=>
    cases ho':os[k]? with
    |none=>rw[ho']at hk;cases hk
    |some o'=>
     rw[ho]at hj;rw[ho']at hk;cases hj;cases hk
     have:=oN j k o o' hjk ho ho';have:=(oF k o' ho').2.1;have:=(oF j o ho).2.1;dsimp only;omega
  .obtain⟨k,hk,e⟩:=Dj hv;have hk2:(KN N 0 q os)[k]?=some v:=by rw[gG hk,e]
   rw[JW]at hk2;cases ho:os[k]? with
   |none=>rw[ho]at hk2;cases hk2
   |some o=>
    rw[ho]at hk2;cases hk2;have:=(oF k o ho).2.1;dsimp only;omega
 obtain⟨f0,hS0⟩:=hS 0 (.inl rfl);obtain⟨f1,hS1⟩:=hS 1 (.inr rfl)
 obtain⟨fR,hR⟩:∃f,SW ((rs.map λo=>((⟨o.1.p,o.1.rb,o.1.re⟩,o.2):WR×Bool)).map (·.1)) (B6 N (part (b+13) (W w))) f:=by
  obtain⟨f,hf⟩:=sw _ _ ne r w (Cz hwr) (.inr ⟨rfl,rfl⟩) (λu hu=>by
   obtain⟨q1,q2⟩:=Jb _ _ u hu;obtain⟨k1,k2,k3,k4⟩:=r2.ch u q2;exact⟨(k2 q1).1,(k2 q1).2.1,(k2 q1).2.2,q1,k1⟩) (λu hu=>by
   obtain⟨q1,q2⟩:=Jb _ _ u hu
   exact(o2.ch u q2).2.1 q1)
  rw[r2.rdg]at hf
  have e1:((rs.map λo=>((⟨o.1.p,o.1.rb,o.1.re⟩,o.2):WR×Bool)).filter (·.2)).map (·.1)=(rs.filter λo=>o.2).map λo=>⟨o.1.p,o.1.rb,o.1.re⟩:=by
   rw[List.filter_map,WY];rfl
  rw[<-e1]at hf;refine hf.pad (N:=N) (i8 _ _ ne w).1 (λk v hk=>?_) (λj k s v hjk hj hk=>?_) (λv hv=>?_) λp e x e' x' q1 q2=>((i8 _ _ ne w).2 p e x e' x' q1 q2).1
  .rw[BY]at hk;cases ho:rs[k]? with
   |none=>rw[ho]at hk;cases hk
   |some o=>
    rw[ho]at hk;have hk2:((⟨o.1.p,o.1.rb,o.1.re⟩,o.2):WR×Bool)=(v,false):=El hk;have e2:o.2=false:=DJ Prod.snd hk2;have e3:v=⟨o.1.p,o.1.rb,o.1.re⟩:=(DJ Prod.fst hk2).symm;rw[e3];refine((rF k o ho).2.2.2.2 e2).imp (λq=>?_) id;show o.1.p=_;rw[q];cases k with
    |zero=>rw[Uk];rfl
    |succ k=>
     have hkl:k<rs.length:=by have:=(Be.1 ho).1;omega
     have hk3:rs[k]?=some rs[k]:=gG hkl;rw[cU rs 0 k _ hk3];exact(Bz (w:=⟨(rs[k]).1.p,_,_⟩) (by rw[BY,BY,hk3];rfl)).symm
  .rw[BY]at hj hk;cases ho:rs[j]? with
   |none=>rw[ho]at hj;cases hj
   |some o=>
    cases ho':rs[k]? with
    |none=>rw[ho']at hk;cases hk
    |some o'=>
     rw[ho]at hj;rw[ho']at hk;cases hj;cases hk
     have:=rN j k o o' hjk ho ho';have:=(rF k o' ho').2.1;have:=(rF j o ho).2.1;dsimp only;omega
  .obtain⟨o,ho,rfl⟩:=Cd.1 hv;obtain⟨k,hk,e⟩:=Dj ho;have:=(rF k o (by rw[gG hk,e])).2.1;dsimp only;omega
 have ACM:∀(k:tyN) (o:Em),(os.map (·.1))[k]?=some o->(o.p=0\/o.p=1)/\(o.i=0\/o.i=1):=λk o ho=>by
  obtain⟨f,hf⟩:=CP ho;have:=oF k _ hf;exact⟨this.2.2.1,by rw[this.2.2.2.1];exact Ep _⟩
 have AGI:∀n,n<=rs.length->Xs (rs.map (·.1)) n=0\/Xs (rs.map (·.1)) n=1:=λn hn=>by
  cases n with
  |zero=>exact .inl rfl
  |succ n=>
   have hk:rs[n]?=some rs[n]:=gG hn;rw[OB (o:=(rs[n]).1) (by rw[BY,hk];rfl)];exact(rF n _ hk).2.2.1
 have AGJ:∀n,n<=os.length->mB (os.map (·.1)) n=0\/mB (os.map (·.1)) n=1:=λn hn=>by
  cases n with
  |zero=>exact .inl rfl
  |succ n=>
   have hk:os[n]?=some os[n]:=gG hn;rw[QP (o:=(os[n]).1) (by rw[BY,hk];rfl)];exact(oF n _ hk).2.2.1
 have ACN:∀q n,n<=os.length->Nu q (os.map (·.1)) n=0\/Nu q (os.map (·.1)) n=1:=λq n hn=>Xd (λk o ho=>(ACM k o ho).2) n (Cw hn)
 have i9:∀(k:tyN) (o:Em),(os.map (·.1))[k]?=some o->∃y,B6 N (part (b+13) (W w)) o.yb o.ye y/\o.p=Df y:=λk o ho=>by
  obtain⟨f,hf⟩:=CP ho;exact o2.rd _ (BI hf)
 have jA:∀(j:tyN) (r':He),(rs.map (·.1))[j]?=some r'->∃y,B6 N (part (b+10) (W r)) r'.lb r'.le y/\r'.p=CT y:=λj r' hr=>by
  obtain⟨f,hf⟩:=CP hr;exact r2.mL _ (BI hf)
 have jB:∀(j:tyN) (r':He),(rs.map (·.1))[j]?=some r'->r'.se<N->∃z,B6 N (part (b+(4+3*r'.p)) (W r)) r'.sb r'.se z/\r'.i=CT z:=λj r' hr hse=>by
  obtain⟨f,hf⟩:=CP hr;exact r2.slot _ (BI hf) hse
 have hor:∀(j:tyN) (r':He),(rs.map (·.1))[j]?=some r'->(r'.lb<r'.le/\r'.le<N/\r'.le<=r'.rb/\r'.rb<=r'.re/\r'.re<=r'.sb/\r'.sb<=r'.se/\r'.se<=r'.db/\r'.db<=r'.de/\r'.de<=N)/\(r'.p=0\/r'.p=1)/\(r'.i=0\/r'.i=1):=λj r' hr=>by
  obtain⟨f,hf⟩:=CP hr;have:=rF j _ hf;exact⟨this.2.1,this.2.2.1,this.2.2.2.1⟩
 have hnr:∀(j k:tyN) (r' du:He),j<k->(rs.map (·.1))[j]?=some r'->(rs.map (·.1))[k]?=some du->r'.de<du.lb:=λj k r' du hjk hr hr'=>by
  obtain⟨f,hf⟩:=CP hr;obtain⟨f',hf'⟩:=CP hr';exact rN j k _ _ hjk hf hf'
 have how:∀(k:tyN) (o:Em),(os.map (·.1))[k]?=some o->o.yb<o.ye/\o.ye<o.db/\o.db<o.de/\o.de<=o.sb/\o.sb<=o.se/\o.se<=o.lb/\o.lb<=o.le:=λk o ho=>by
  obtain⟨f,hf⟩:=CP ho;have:=(oF k _ hf).2.1;exact⟨this.1,this.2.1,this.2.2.1,this.2.2.2.1,this.2.2.2.2.1,this.2.2.2.2.2.1,this.2.2.2.2.2.2.1⟩
 have hnw:∀(j k:tyN) (o o':Em),j<k->(os.map (·.1))[j]?=some o->(os.map (·.1))[k]?=some o'->o.le<o'.yb:=λj k o o' hjk ho ho'=>by
  obtain⟨f,hf⟩:=CP ho;obtain⟨f',hf'⟩:=CP ho';exact oN j k _ _ hjk hf hf'
 have atR:∀(j:tyN) (r':He),(rs.map (·.1))[j]?=some r'->((rs.map λo=>((⟨o.1.p,o.1.rb,o.1.re⟩,o.2):WR×Bool)).map (·.1))[j]?=some ⟨r'.p,r'.rb,r'.re⟩:=λj r' hr=>by
  obtain⟨f,hf⟩:=CP hr;rw[BY,BY,hf];rfl
 have atL:∀(k:tyN) (o:Em),(os.map (·.1))[k]?=some o->((os.map λo=>((⟨o.1.p,o.1.lb,o.1.le⟩,o.2):WR×Bool)).map (·.1))[k]?=some ⟨o.p,o.lb,o.le⟩:=λk o ho=>by
  obtain⟨f,hf⟩:=CP ho;rw[BY,BY,hf];rfl
 have atS:∀(q:tyI) (k:tyN) (o:Em),(os.map (·.1))[k]?=some o->((KN N 0 q os).map (·.1))[k]?=some ⟨sL 0 q os (k+1),o.sb,o.se⟩:=λq k o ho=>by
  obtain⟨f,hf⟩:=CP ho;rw[BY,JW,hf];rfl
 obtain⟨fS,zQ⟩:∃fS:Int->Nat->Nat,∀q,(q=0\/q=1)->SW ((KN N 0 q os).map (·.1)) (B6 N (part (b+(4+3*q)) (W r))) (fS q):=⟨λq=>if q=0 then f0 else f1,λq hq=>by
  rcases hq with rfl|rfl
  .exact hS0
  .exact hS1⟩
 have Sb:VY N (os.map (·.1)) (rs.map (·.1)) (λk=>fR (((os.map (·.1)).getD k JT).yb)) (λj=>fL (((rs.map (·.1)).getD j Ui).lb)) (λj=>fS ((rs.map (·.1)).getD j Ui).p (((rs.map (·.1)).getD j Ui).sb)):=
  {pw:=ACM
   pr:=λj r' hr=>(hor j r' hr).2
   ow:=how
   nw:=hnw
   or':=λj r' hr=>by have:=(hor j r' hr).1;exact⟨this.1,this.2.2.1,this.2.2.2.1,this.2.2.2.2.1,this.2.2.2.2.2.1,this.2.2.2.2.2.2.1,this.2.2.2.2.2.2.2.1⟩
   nr:=hnr
   turn:=λk o ho=>by
    rw[Ai ho];obtain⟨y,q1,q2⟩:=i9 k o ho;have l1:=hR.le _ _ _ q1;rw[Ca,Ca]at l1;have e1:=hR.val _ _ _ q1;rw[Zu rs _ l1]at e1;obtain⟨f,hf⟩:=CP ho;have hkl:k<=os.length:=BP (Be.1 hf).1;have e2:=(oF k _ hf).2.2.2.1;dsimp only at e2;rw[show(if o.p=0 then(0:tyI)else 0)=0 by split<;>rfl,Ve _ _ hkl]at e2;exact⟨by rw[q2,e1,bZ (AGI _ l1)],by rw[e2,bZ (ACN _ _ hkl)]⟩
   rle:=λk o ho=>by
    rw[Ai ho];obtain⟨y,q1,q2⟩:=i9 k o ho;have l1:=hR.le _ _ _ q1;simpa using l1
   ra:=λk o j r' ho hr hlt=>by
    rw[Ai ho]at hlt;obtain⟨y,q1,q2⟩:=i9 k o ho;exact hR.ahead _ _ _ q1 j _ (atR j r' hr) hlt
   rb:=λk o j r' ho hr hlt=>by
    rw[Ai ho];obtain⟨y,q1,q2⟩:=i9 k o ho;exact hR.behind _ _ _ q1 j _ (atR j r' hr) hlt
   rm:=λj k o o' hjk ho ho'=>by
    rw[Ai ho,Ai ho'];obtain⟨y,q1,q2⟩:=i9 j o ho;obtain⟨y',q1',q2'⟩:=i9 k o' ho';have:=how j o ho;have:=hnw j k o o' hjk ho ho';exact hR.mono _ _ _ _ _ _ q1 q1' J
   lle:=λj r' hr=>by
    rw[Ai hr];obtain⟨y,q1,q2⟩:=jA j r' hr;have l1:=hL.le _ _ _ q1;simpa using l1
   lv:=λj r' hr=>by
    rw[Ai hr];obtain⟨y,q1,q2⟩:=jA j r' hr;have l1:=hL.le _ _ _ q1;rw[Ca,Ca]at l1;have e1:=hL.val _ _ _ q1;rw[a9 os _ l1]at e1;rw[q2,e1,dG (AGJ _ l1)]
   la:=λj r' k o hr ho hlt=>by
    rw[Ai hr]at hlt;obtain⟨y,q1,q2⟩:=jA j r' hr;exact hL.ahead _ _ _ q1 k _ (atL k o ho) hlt
   lb:=λj r' k o hr ho hlt=>by
    rw[Ai hr];obtain⟨y,q1,q2⟩:=jA j r' hr;exact hL.behind _ _ _ q1 k _ (atL k o ho) hlt
   lm:=λj k r' du hjk hr hr'=>by
    rw[Ai hr,Ai hr'];obtain⟨y,q1,q2⟩:=jA j r' hr;obtain⟨y',q1',q2'⟩:=jA k du hr';have:=hor j r' hr;have:=hnr j k r' du hjk hr hr';exact hL.mono _ _ _ _ _ _ q1 q1' J
   sle:=λj r' hr hse=>by
    rw[Ai hr];obtain⟨y,q1,q2⟩:=jB j r' hr hse;have l1:=(zQ _ (hor j r' hr).2.1).le _ _ _ q1;rw[Ca,Oy]at l1;simpa using l1
   sv:=λj r' hr hse=>by
    rw[Ai hr];obtain⟨y,q1,q2⟩:=jB j r' hr hse;have l1:=(zQ _ (hor j r' hr).2.1).le _ _ _ q1;rw[Ca,Oy]at l1;have e1:=(zQ _ (hor j r' hr).2.1).val _ _ _ q1;rw[Tq l1,Ve _ _ l1]at e1;rw[q2,e1,dG (ACN _ _ l1)]
   sa:=λj r' k o hr hse ho hp hlt=>by
    rw[Ai hr]at hlt;obtain⟨y,q1,q2⟩:=jB j r' hr hse;exact(zQ _ (hor j r' hr).2.1).ahead _ _ _ q1 k _ (atS _ k o ho) hlt
   sb:=λj r' k o hr hse ho hp hlt=>by
    rw[Ai hr];obtain⟨y,q1,q2⟩:=jB j r' hr hse;exact(zQ _ (hor j r' hr).2.1).behind _ _ _ q1 k _ (atS _ k o ho) hlt
   sm:=λj k r' du hjk hr hr' hse hp=>by
    rw[Ai hr,Ai hr'];have g1:=hor j r' hr;have g2:=hor k du hr';have g3:=hnr j k r' du hjk hr hr';obtain⟨y,q1,q2⟩:=jB j r' hr J;obtain⟨y',q1',q2'⟩:=jB k du hr' hse;rw[<-hp]at q1'|-;exact(zQ _ g1.2.1).mono _ _ _ _ _ _ q1 q1' J
   dx:=λj r' hr hde n hn c1 c2=>by
    obtain⟨f,hf⟩:=CP hr;obtain⟨d1,d2,u,d3,d4⟩:=r2.data _ (BI hf) hde;have g1:=hor j r' hr;rw[w1]at d3;have hn':n<=(DK r'.p r'.i os).length:=by unfold DK;rw[Ca];simpa using hn
    have ua:=hs (b+(2*r'.p+r'.i)) J J;rw[AK J]at ua
    have hat:∀(i:tyN) (v:WR),(DK r'.p r'.i os)[i]?=some (v,true)->∃o,(os.map (·.1))[i]?=some o/\o.p=r'.p/\o.i=r'.i/\v=⟨o.v,o.db,o.de⟩:=λi v hv=>by
     unfold DK at hv;rw[BY]at hv;cases ho:os[i]? with
     |none=>rw[ho]at hv;cases hv
     |some o=>
      rw[ho]at hv;have hv2:((⟨o.1.v,o.1.db,o.1.de⟩,decide (o.1.p=r'.p/\o.1.i=r'.i)):WR×Bool)=(v,true):=El hv;have:=Il (DJ Prod.snd hv2);exact⟨o.1,by rw[BY,ho];rfl,this.1,this.2,(DJ Prod.fst hv2).symm⟩
    have hmem:∀v,v∈((DK r'.p r'.i os).filter (·.2)).map (·.1)->∃(i:tyN) (o:Em),(os.map (·.1))[i]?=some o/\o.p=r'.p/\o.i=r'.i/\v=⟨o.v,o.db,o.de⟩:=λv hv=>by
     obtain⟨i,hi,e⟩:=Dj hv;have hv2:(((DK r'.p r'.i os).filter (·.2)).map (·.1))[i]?=some v:=by rw[gG hi,e]
     have hP:(DK r'.p r'.i os).length<=(DK r'.p r'.i os).length:=A9 _;have:=(QM (A9 _) hv2).1 (by rw[La];exact hi);obtain⟨k,_,hk⟩:=this;obtain⟨o,ho⟩:=hat k v hk;exact⟨k,o,ho⟩
    obtain⟨x1,x2⟩:=ua.2 (((DK r'.p r'.i os).filter (·.2)).map (·.1)) (λj k s v hjk hj hk=>by
      have hk':k<Fx (DK r'.p r'.i os) (DK r'.p r'.i os).length:=by rw[La];exact(Be.1 hk).1
      obtain⟨i2,_,hi2⟩:=(QM (A9 _) hk).1 hk'
      have key:∀(i2:tyN) (v:WR) (k:tyN),(((DK r'.p r'.i os).filter (·.2)).map (·.1))[k]?=some v->∃i,Fx (DK r'.p r'.i os) i=k/\(DK r'.p r'.i os)[i]?=some (v,true):=λ_ v k hk=>by
       have hk0:k<Fx (DK r'.p r'.i os) (DK r'.p r'.i os).length:=by rw[La];exact(Be.1 hk).1
       have step:∀m,m<=(DK r'.p r'.i os).length->k<Fx (DK r'.p r'.i os) m->∃i,i<m/\Fx (DK r'.p r'.i os) i=k/\∃v',(DK r'.p r'.i os)[i]?=some (v',true):=λm=>by
        induction m with
        |zero=>intro _ h;exact absurd h (Uu _)
        |succ m ih=>
         intro hm h;have hp:(DK r'.p r'.i os)[m]?=some (DK r'.p r'.i os)[m]:=gG hm;obtain⟨⟨v',q⟩,hq⟩:∃p,(DK r'.p r'.i os)[m]=p:=⟨_,rfl⟩;rw[hq]at hp;rw[F8 hp]at h;rcases CR k (Fx (DK r'.p r'.i os) m)with g|g
         .obtain⟨i,i1,i2,i3⟩:=ih J g;exact⟨i,J,i2,i3⟩
         .cases q with
          |true=>simp at h;exact⟨m,I7 _,J,v',hp⟩
          |false=>simp at h;omega
       obtain⟨i,i1,i2,v',i3⟩:=step _ (A9 _) hk0;have:=Nl i3;rw[i2,hk]at this;cases this
       exact⟨i,i2,i3⟩
      obtain⟨a1,a2,a3⟩:=key 0 s j hj;obtain⟨b1,b2,b3⟩:=key 0 v k hk;obtain⟨o,ho,_,_,rfl⟩:=hat a1 s a3;obtain⟨o',ho',_,_,rfl⟩:=hat b1 v b3
      have hab:a1<b1:=by
       rcases CR a1 b1 with g|g
       .exact g
       .have:=Oh (P:=DK r'.p r'.i os) g (BP (Be.1 a3).1);omega
      have:=hnw a1 b1 o o' hab ho ho';have:=how a1 o ho;have:=how b1 o' ho'
      dsimp only;omega)
     (λv hv=>by
      obtain⟨i,o,ho,hp,hi,rfl⟩:=hmem v hv;obtain⟨f,hf⟩:=CP ho;obtain⟨u',x',m1,m2⟩:=o2.zl _ (BI hf);rw[w1]at m1;obtain⟨u'',m3,m4,m5⟩:=o2.back i _ hf;rw[w1]at m3;have:=(hwk u'' (BI m3)).2;dsimp only at m4 m2;rw[<-m4]at this;rw[hp,hi]at m2
      exact⟨this,w,x',h.inl w u' m1 _ _ _ _ m2⟩)
     (λt v p e x hA=>by
      obtain⟨u',m1,m2⟩:=h.Rm t _ p e x hA (hcs _ (by dsimp only;omega) (by dsimp only;omega))
      have EW:t=w\/t=r:=by
       by_cases e1:t=w
       .exact .inl e1
       by_cases e2:t=r
       .exact .inr e2
       rw[hone t e1 e2]at m1;cases m1
      rcases EW with rfl|rfl
      .obtain⟨o,m3,m4,m5,m6⟩:=o2.dat u' (by rw[w1];exact m1) _ p e x m2 (by dsimp only;omega);obtain⟨i,hi,e0⟩:=Dj m3;have hio:os[i]?=some o:=by rw[gG hi,e0]
       have ob:=oF i o hio;have oi:o.1.i=0\/o.1.i=1:=by rw[ob.2.2.2.1];exact Ep _
       have op:=ob.2.2.1;have m7:b+(2*r'.p+r'.i)=b+(2*o.1.p+o.1.i):=DJ (λa:AD=>a.2.1) m4;have m8:v=o.1.v:=DJ (λa:AD=>a.2.2) m4;have g2:=g1.2;refine Cd.2 ⟨(⟨o.1.v,o.1.db,o.1.de⟩,true),Db.2 ⟨Cd.2 ⟨o,m3,?_⟩,rfl⟩,by rw[m8,m5,m6]⟩;rw[Fi (show o.1.p=r'.p/\o.1.i=r'.i by omega)]
      .have:=r2.nod u' (by rw[w1];exact m1) _ p e x m2 (by dsimp only;omega)
       exact absurd (show(2:tyI)=1 from this) AQ) r _ _ _ (h.inl r u d3 _ _ _ _ d4) hde
    rw[<-UJ n (Cw hn)];refine x1 _ ?_ (λi v hi hv=>?_) λi v hi hv=>?_
    .have:=Oh (P:=DK r'.p r'.i os) hn' (A9 _);rw[La]at this;exact this
    .obtain⟨k,k1,k2⟩:=(QM hn' hv).1 hi;obtain⟨o,ho,hp,hi',rfl⟩:=hat k v k2;exact c1 k o k1 ho hp hi'
    .obtain⟨k,k1,k2⟩:=(QM hn' hv).2 hi;obtain⟨o,ho,hp,hi',rfl⟩:=hat k v k2
     exact c2 k o k1 ho hp hi'}
 have hUW:os.length<=(U w).length:=by
  rw[<-w1 w];cases e:os.length with
  |zero=>exact DV _
  |succ n=>
   have hnl:n<os.length:=J;have hn:os[n]?=some os[n]:=gG hnl;obtain⟨u,hu,_⟩:=o2.back n _ hn;exact(Be.1 hu).1
 obtain⟨f,hf⟩:=tE rs.length (λj=>((rs.map (·.1)).getD j Ui).lb) (λj=>Dq ((rs.map (·.1)).getD j Ui).p (os.map (·.1)) (fS ((rs.map (·.1)).getD j Ui).p (((rs.map (·.1)).getD j Ui).sb))) λi j hij hj=>by
  have hil:i<(rs.map (·.1)).length:=by rw[Ca];omega
  have hjl:j<(rs.map (·.1)).length:=by rw[Ca];omega
  have hi:(rs.map (·.1))[i]?=some (rs.map (·.1))[i]:=gG hil;have hj':(rs.map (·.1))[j]?=some (rs.map (·.1))[j]:=gG hjl;have g1:=(hor i _ hi).1;have g2:=hnr i j _ _ hij hi hj';rw[Ai hi,Ai hj'];omega
 have hrd:∀(p q:tyN) (x:tyI),B6 N (U r) p q x->∃(j:tyN) (r':He),(rs.map (·.1))[j]?=some r'/\r'.lb=p/\r'.de=q/\r'.x=x/\q<N/\f p=Dq r'.p (os.map (·.1)) (fS r'.p r'.sb):=λp q x ⟨u,h1,h2,h3,h4,h5⟩=>by
  obtain⟨j,hj,e⟩:=Dj h1;have hj':((W r).map Prod.fst)[j]?=some u:=by rw[w1,gG hj,e]
  obtain⟨r',k1,k2,k3,k4⟩:=r2.fin j u hj' (by rw[h3];exact h5) x h4;have k5:(rs.map (·.1))[j]?=some r'.1:=by rw[BY,k1];rfl
  have:=hf j (Be.1 k1).1
  try dsimp only at this
  rw[Ai k5,k3,h2]at this;exact⟨j,r'.1,k5,k3.trans h2,k2.trans h3,k4,h5,this⟩
 refine⟨f,λp q x hx=>?_,λp q x hx=>?_,λp q x hx k v hk hlt=>?_,λp q x hx k v hk hlt=>?_,λp q x p' q' x' hx hx' hlt=>?_⟩
 .obtain⟨j,r',k1,k2,k3,k4,k5,k6⟩:=hrd p q x hx;have:=Sb.reads k1 J
  try dsimp only at this
  rw[Ai k1]at this;rw[k6,Ca];have h1:=this.1;rw[Ca]at h1;omega
 .obtain⟨j,r',k1,k2,k3,k4,k5,k6⟩:=hrd p q x hx;have:=(Sb.reads k1 J).2.1
  try dsimp only at this
  rw[Ai k1]at this;rw[k6,<-k4,this];cases e:Dq r'.p (os.map (·.1)) (fS r'.p r'.sb)with
  |zero=>rfl
  |succ m=>
   have hm:=QQ e
   have G8:m<os.length:=by
    have:=(Sb.reads k1 J).1
    try dsimp only at this
    rw[Ai k1,e,Ca]at this;exact this
   have hmo:os[m]?=some os[m]:=gG G8;obtain⟨u,m1,m2,m3⟩:=o2.back m _ hmo;rw[w1]at m1;rw[Bz (w:=u.wr N) (by rw[BY,m1];rfl)];show((os.map (·.1)).getD m JT).v=u.a.2.2;rw[Ai (show(os.map (·.1))[m]?=some (os[m]).1 by rw[BY,hmo];rfl),m2]
 .obtain⟨j,r',k1,k2,k3,k4,k5,k6⟩:=hrd p q x hx;obtain⟨u,hu,rfl⟩:=UH hk;have hre:=Sb.reads k1 J
  try dsimp only at hre
  rw[Ai k1]at hre;rw[k6]at hlt;have hkl:k<os.length:=by have:=hre.1;rw[Ca]at this;omega
  have hko:os[k]?=some os[k]:=gG hkl;obtain⟨u',m1,m2,m3⟩:=o2.back k _ hko;rw[w1,hu]at m1;cases m1;have:=hre.2.2.1 k _ (by rw[BY,hko];rfl) hlt;show u.fb<q;rw[<-m3,<-k3];exact this
 .obtain⟨j,r',k1,k2,k3,k4,k5,k6⟩:=hrd p q x hx;obtain⟨u,hu,rfl⟩:=UH hk;have hre:=Sb.reads k1 J
  try dsimp only at hre
  rw[Ai k1]at hre;have hlt':u.e N<p:=hlt;have g1:=(hor j r' k1).1;obtain⟨o,m1,m2⟩:=o2.fin k u (by rw[w1];exact hu) J;rw[k6];exact hre.2.2.2.1 k o.1 (by rw[BY,m1];rfl) J
 .obtain⟨j,r',k1,k2,k3,k4,k5,k6⟩:=hrd p q x hx;obtain⟨j',du,k1',k2',k3',k4',k5',k6'⟩:=hrd p' q' x' hx';have g1:=(hor j r' k1).1;have g2:=(hor j' du k1').1;rw[k6,k6'];rcases Fq j j' with e|e|e
  .have:=Sb.mono e k1 k1' J
   try dsimp only at this
   rw[Ai k1,Ai k1']at this;exact this
  .subst e;rw[k1]at k1';cases k1';exact A9 _
  .have:=hnr j' j du r' e k1' k1;omega
structure pK where
 b:Nat
 e:Nat
structure NX where
 b:Nat
 de:Nat
 e:Nat
 x0:Int
 tv:Nat->Int
 x:Int
def tb0:NX:=⟨0,0,0,0,λ_=>0,0⟩
def VX (rs:List NX):Nat->Int
 |0=>0
 |n+1=>(rs.getD n tb0).x
structure U7 (k:tyN)(X:Nat->Int)(ws:List pK)(rs:Nat->List NX)(fo:Nat->Nat->Nat)(ft:Nat->Nat->Nat->Nat):Prop where
 X0:X 0=0
 up:∀(i j:tyN),i<j->j<=ws.length->X i<X j
 O7:∀(a j:tyN) (r:NX),a<k->(rs a)[j]?=some r->r.b<r.de/\r.de<=r.e
 ole:∀(a j:tyN) (r:NX),a<k->(rs a)[j]?=some r->fo a j<=ws.length
 ov:∀(a j:tyN) (r:NX),a<k->(rs a)[j]?=some r->r.x0=X (fo a j)
 oa:∀(a j:tyN) (r:NX) (i:tyN) (w:pK),a<k->(rs a)[j]?=some r->ws[i]?=some w->i<fo a j->w.b<r.de
 ob:∀(a j:tyN) (r:NX) (i:tyN) (w:pK),a<k->(rs a)[j]?=some r->ws[i]?=some w->w.e<r.b->i<fo a j
 om:∀(a j j':tyN) (r r':NX),a<k->j<j'->(rs a)[j]?=some r->(rs a)[j']?=some r'->fo a j<=fo a j'
 tle:∀(a b j:tyN) (r:NX),a<k->b<k->a≠b->(rs a)[j]?=some r->ft b a j<=(rs b).length
 lx:∀(a b j:tyN) (r:NX),a<k->b<k->a≠b->(rs a)[j]?=some r->r.tv b=VX (rs b) (ft b a j)
 ta:∀(a b j:tyN) (r:NX) (i:tyN) (s:NX),a<k->b<k->a≠b->(rs a)[j]?=some r->(rs b)[i]?=some s->i<ft b a j->s.de<r.de
 tb:∀(a b j:tyN) (r:NX) (i:tyN) (s:NX),a<k->b<k->a≠b->(rs a)[j]?=some r->(rs b)[i]?=some s->s.e<r.b->i<ft b a j
 tm:∀(a b j j':tyN) (r r':NX),a<k->b<k->a≠b->j<j'->(rs a)[j]?=some r->(rs a)[j']?=some r'->ft b a j<=ft b a j'
 yn:∀(a j:tyN) (r:NX),a<k->(rs a)[j]?=some r->r.x0<=r.x
 ge:∀(a b j:tyN) (r:NX),a<k->b<k->a≠b->(rs a)[j]?=some r->r.tv b<=r.x
 is:∀(a j:tyN) (r:NX),a<k->(rs a)[j]?=some r->r.x=r.x0\/∃b,b<k/\a≠b/\r.x=r.tv b
 row:∀(a j j':tyN) (r r':NX),a<k->j<j'->(rs a)[j]?=some r->(rs a)[j']?=some r'->r.e<r'.b
section
variable {k:tyN}{X:Nat->Int}{ws:List pK}{rs:Nat->List NX}{fo:Nat->Nat->Nat}{ft:Nat->Nat->Nat->Nat}
theorem JH{l:List NX}{i:tyN}{s:NX}(h:l[i]?=some s):VX l (i+1)=s.x:=by
 show(l.getD i tb0).x=_;rw[gD,h];rfl
theorem U7.wrote(h:U7 k X ws rs fo ft):∀(T a j:tyN) (r:NX),a<k->(rs a)[j]?=some r->r.de=T->∃F,F<=ws.length/\r.x=X F/\∀(i:tyN) (w:pK),ws[i]?=some w->i<F->w.b<r.de:=λT=>by
 induction T using Nat.strongRecOn with
 |ind T ih=>
  intro a j r ha hr hT;rcases h.is a j r ha hr with e|⟨b,hb,hab,e⟩
  .exact⟨fo a j,h.ole a j r ha hr,e.trans (h.ov a j r ha hr),λi w hw hi=>h.oa a j r i w ha hr hw hi⟩
  .have hv:=h.lx a b j r ha hb hab hr;have hl:=h.tle a b j r ha hb hab hr;cases hf:ft b a j with
   |zero=>
    rw[hf]at hv;exact⟨0,DV _,by rw[e,hv,h.X0];rfl,λi w hw hi=>J⟩
   |succ i=>
    have hil:i<(rs b).length:=J;have hs:(rs b)[i]?=some (rs b)[i]:=gG hil;rw[hf,JH hs]at hv;have hlt:=h.ta a b j r i _ ha hb hab hr hs J;obtain⟨F,g1,g2,g3⟩:=ih _ J b i _ hb hs rfl;exact⟨F,g1,by rw[e,hv,g2],λi w hw hi=>by have:=g3 i w hw hi;omega⟩
theorem U7.same(h:U7 k X ws rs fo ft):∀(T a j j':tyN) (r r':NX),a<k->j<j'->(rs a)[j]?=some r->(rs a)[j']?=some r'->r'.de=T->r.x<=r'.x:=λT=>by
 induction T using Nat.strongRecOn with
 |ind T ih=>
  intro a j j' r r' ha hjj hr hr' hT;rcases h.is a j r ha hr with e|⟨b,hb,hab,e⟩
  .have h1:=h.om a j j' r r' ha hjj hr hr';have h2:=h.ov a j r ha hr;have h3:=h.ov a j' r' ha hr';have h4:=h.yn a j' r' ha hr';have h5:=h.ole a j' r' ha hr';rcases CR (fo a j) (fo a j')with g|g
   .have:=h.up _ _ g h5;omega
   .have:fo a j=fo a j':=J;rw[this]at h2;omega
  .have h1:=h.tm a b j j' r r' ha hb hab hjj hr hr';have h2:=h.lx a b j r ha hb hab hr;have h3:=h.lx a b j' r' ha hb hab hr';have h4:=h.ge a b j' r' ha hb hab hr';have h5:=h.tle a b j' r' ha hb hab hr'
   have key:VX (rs b) (ft b a j)<=VX (rs b) (ft b a j'):=by
    rcases CR (ft b a j) (ft b a j')with g|g
    .obtain⟨i',hi'⟩:∃i,ft b a j'=i+1:=⟨ft b a j'-1,J⟩;have AGK:i'<(rs b).length:=J;have hs':(rs b)[i']?=some (rs b)[i']:=gG AGK;have hlt:=h.ta a b j' r' i' _ ha hb hab hr' hs' J;rw[hi',JH hs'];cases hf:ft b a j with
     |zero=>
      obtain⟨F,g1,g2,g3⟩:=h.wrote _ b i' _ hb hs' rfl;show(0:tyI)<=_;rw[g2];cases F with
      |zero=>rw[h.X0];exact In _
      |succ F=>have:=h.up 0 (F+1) J g1;rw[h.X0]at this;omega
     |succ i=>
      have hil:i<(rs b).length:=J;have hs:(rs b)[i]?=some (rs b)[i]:=gG hil;rw[JH hs];exact ih _ J b i i' _ _ hb J hs hs' rfl
    .have:ft b a j=ft b a j':=J;rw[this];exact In _
   omega
theorem U7.mono(h:U7 k X ws rs fo ft){b i:tyN}{r s:NX}(ha:a<k)(hb:b<k)(hr:(rs a)[j]?=some r)(hs:(rs b)[i]?=some s)(hlt:r.e<s.b):r.x<=s.x:=by
 by_cases hab:a=b
 .subst hab;have o1:=h.O7 a j r ha hr;have o2:=h.O7 a i s ha hs;rcases Fq j i with g|g|g
  .exact h.same _ a j i r s ha g hr hs rfl
  .subst g;rw[hr]at hs;cases hs;omega
  .have:=h.row a i j s r ha g hs hr;omega
 .have h1:=h.tb b a i s j r hb ha (Cz hab) hs hr hlt;have h2:=h.lx b a i s hb ha (Cz hab) hs;have h3:=h.ge b a i s hb ha (Cz hab) hs;have h4:=h.tle b a i s hb ha (Cz hab) hs;obtain⟨m,hm⟩:∃m,ft a b i=m+1:=⟨ft a b i-1,J⟩;have G8:m<(rs a).length:=J;have hms:(rs a)[m]?=some (rs a)[m]:=gG G8;rw[hm,JH hms]at h2
  have:r.x<=((rs a)[m]).x:=by
   rcases CR j m with g|g
   .exact h.same _ a j m r _ ha g hr hms rfl
   .have:j=m:=J;subst this;rw[hr]at hms;rw[<-El hms];exact In _
  omega
theorem U7.knows(h:U7 k X ws rs fo ft){r:NX}(ha:a<k)(hr:(rs a)[j]?=some r){F:tyN}(hF:F<=ws.length)(hx:r.x=X F){i:tyN}{w:pK}(hw:ws[i]?=some w)(hlt:w.e<r.b):i<F:=by
 have h1:=h.ob a j r i w ha hr hw hlt;have h2:=h.ov a j r ha hr;have h3:=h.yn a j r ha hr;have h4:=h.ole a j r ha hr;rcases CR i F with g|g
 .exact g
 .exfalso;have:=h.up F (fo a j) J h4;omega
end
theorem DE.within{α:Type}{f:AD->Op Int}{o o':Op α}{lo:tyN}(h:DE f o l lo L K o' l'):Seq lo L->∀u,u∈K->lo<=u.lo/\Seq u.lo u.its/\AM u.lo u.its<=AM lo L:=by
 induction h with
 |nil=>intro _ u hu;cases hu
 |get _ ih=>exact ih
 |set _ ih=>exact ih
 |live _ ih=>exact ih
 | @note c k l l' lo L K o' p h ih=>
  intro hs u hu;obtain⟨h1,h2,h3⟩:=ih hs.2 u hu;have hp:=hs.1;exact⟨J,h2,h3⟩
 | @ask a k l l1 l' lo L1 L K o' x h1 h ih=>
  intro hs u hu;obtain⟨s1,s2⟩:=Seq.append.1 hs;have hl:=Seq.A7 s1;have hl2:=Seq.A7 s2;rw[AY];rcases BJ.1 hu with rfl|hu
  .exact⟨A9 _,s1,hl2⟩
  .obtain⟨g1,g2,g3⟩:=ih s2 u hu;exact⟨J,g2,g3⟩
 |stop h1 hn h0=>
  intro hs u hu;rw[Bq]at hu;subst hu;exact⟨A9 _,hs,A9 _⟩
theorem Mk{g:AD->Op Int}{x:tyI}:∀(cs:tyL) {k o':Op Int} {l l':tyL} {at':tyN} {L:List Item} {K:List Ch},DE g (De x cs k) l at' L K o' l'->Seq at' L->
  (∃cs1 cs2,cs=cs1++cs2/\K.map Ch.a=cs1.map (λc=>((2,c,x):AD))/\∀v,o'≠ .ret v)\/
  ∃K1 K2 L1 L2 l1,K=K1++K2/\L=L1++L2/\K1.map Ch.a=cs.map (λc=>((2,c,x):AD))/\NT K1/\DE g k l1 (AM at' L1) L2 K2 o' l'/\(∀u,u∈K1->AM u.lo u.its<=AM at' L1)/\∀i,0<=i/\i<32768->(∀c,c∈cs->(g (2,c,x)).keeps i)->Ac l1 i=Ac l i
 |[],k,o',l,l',at',L,K,h,hs=> .inr ⟨[],K,[],L,l,rfl,rfl,rfl,λu hu=>by(cases hu),h,λu hu=>by(cases hu),λ_ _ _=>rfl⟩
 |c::cs,k,o',l,l',at',L,K,h,hs=>by
  rcases DE.Ba (show DE g (.ask (2,c,x) λ_=>De x cs k) l at' L K o' l' from h)with⟨rfl,rfl,hn⟩|⟨o1,rfl,_,_,_,hn⟩|⟨L1,L2,K2,l1,y,hK,hL,hp,hd⟩
  .exact .inl ⟨[],c::cs,rfl,rfl,hn⟩
  .exact .inl ⟨[c],cs,rfl,rfl,hn⟩
  subst hK;subst hL;obtain⟨s1,s2⟩:=Seq.append.1 hs;rcases Mk cs hd s2 with⟨cs1,cs2,e1,e2,hn⟩|⟨K3,K4,L3,L4,l3,e1,e2,e3,e4,e5,e6,e7⟩
  .exact .inl ⟨c::cs1,cs2,by rw[e1];rfl,by rw[Gf,e2];rfl,hn⟩
  .refine .inr ⟨_::K3,K4,L1++L3,L4,l3,by rw[e1];rfl,by rw[e2,Jt],by rw[Gf,e3];rfl,λu hu=>?_,by rw[AY];exact e5,λu hu=>?_,λi hi hk=>?_⟩
   .rcases BJ.1 hu with rfl|hu
    .exact⟨_,rfl⟩
    .exact e4 u hu
   .rw[AY];rcases BJ.1 hu with rfl|hu
    .rw[e2]at s2;exact Seq.A7 (Seq.append.1 s2).1
    .exact e6 u hu
   .rw[e7 i hi λc hc=>hk c (.tail _ hc)];exact hp.keeps hi (hk c (.head _))
theorem T3{g:AD->Op Int}:∀(cs:tyL) {x:tyI} {k:Int->Op Int} {o':Op Int} {l l':tyL} {at':tyN} {L:List Item} {K:List Ch},DE g (MU cs x k) l at' L K o' l'->Seq at' L->
  ((∀u,u∈K->u.a.1=1/\u.a.2.1∈cs)/\∀v,o'≠ .ret v)\/
  ∃(K1 K2:List Ch) (L1 L2:List Item) (l1 vs:tyL),K=K1++K2/\L=L1++L2/\K1.map Ch.a=cs.map (λc=>((1,c,0):AD))/\K1.map Ch.res=vs.map Option.some/\DE g (k (vs.foldl max x)) l1 (AM at' L1) L2 K2 o' l'/\(∀u,u∈K1->AM u.lo u.its<=AM at' L1)/\∀i,0<=i/\i<32768->(∀c,c∈cs->(g (1,c,0)).keeps i)->Ac l1 i=Ac l i
 |[],x,k,o',l,l',at',L,K,h,hs=> .inr ⟨[],K,[],L,l,[],rfl,rfl,rfl,rfl,h,λu hu=>by(cases hu),λ_ _ _=>rfl⟩
 |c::cs,x,k,o',l,l',at',L,K,h,hs=>by
  rcases DE.Ba (show DE g (.ask (1,c,0) λy=>MU cs (max x y) k) l at' L K o' l' from h)with⟨rfl,rfl,hn⟩|⟨o1,rfl,_,_,_,hn⟩|⟨L1,L2,K2,l1,y,hK,hL,hp,hd⟩
  .exact .inl ⟨λu hu=>by(cases hu),hn⟩
  .exact .inl ⟨λu hu=>by rw[Bq.1 hu];exact⟨rfl,.head _⟩,hn⟩
  subst hK;subst hL;obtain⟨s1,s2⟩:=Seq.append.1 hs;rcases T3 cs hd s2 with⟨e1,hn⟩|⟨K3,K4,L3,L4,l3,vs,e1,e2,e3,e4,e5,e6,e7⟩
  .refine .inl ⟨λu hu=>?_,hn⟩;rcases BJ.1 hu with rfl|hu
   .exact⟨rfl,.head _⟩
   .exact⟨(e1 u hu).1,.tail _ (e1 u hu).2⟩
  .refine .inr ⟨_::K3,K4,L1++L3,L4,l3,y::vs,by rw[e1];rfl,by rw[e2,Jt],by rw[Gf,e3];rfl,by rw[Gf,e4];rfl,by rw[AY];exact e5,λu hu=>?_,λi hi hk=>?_⟩
   .rw[AY];rcases BJ.1 hu with rfl|hu
    .rw[e2]at s2;exact Seq.A7 (Seq.append.1 s2).1
    .exact e6 u hu
   .rw[e7 i hi λc hc=>hk c (.tail _ hc)];exact hp.keeps hi (hk c (.head _))
theorem mY(hlo:0<=lo/\lo<32768){top v:tyI}{at':tyN}{o':Op Int}(hg:∀c,c∈(List.range k).map (BO b)->∀x,(g (2,c,x)).keeps lo)(h:DE g (R1 b lo k top v) l at' L K o' l')(hs:Seq at' L):
  (∃cs1 cs2,(List.range k).map (BO b)=cs1++cs2/\K.map Ch.a=cs1.map λc=>((2,c,Dg (wrap64 (Ac l lo+1)) v top):AD))/\
   ∀x,o'= .ret x->K.map Ch.a=((List.range k).map (BO b)).map (λc=>((2,c,Dg (wrap64 (Ac l lo+1)) v top):AD))/\NT K/\Ac l' lo=wrap64 (Ac l lo+1):=by
 unfold R1 at h;rcases h.Ed with⟨rfl,rfl,hn⟩|h1
 .exact⟨⟨[],_,rfl,rfl⟩,λx e=>absurd e (hn x)⟩
 clear h;rcases h1.G7 with⟨rfl,rfl,hn⟩|h
 .exact⟨⟨[],_,rfl,rfl⟩,λx e=>absurd e (hn x)⟩
 clear h1;rcases Mk _ h hs with⟨cs1,cs2,e1,e2,hn⟩|⟨K1,K2,L1,L2,l1,rfl,rfl,e3,e4,e5,e6,e7⟩
 .exact⟨⟨cs1,cs2,e1,e2⟩,λx e=>absurd e (hn x)⟩
 .obtain⟨rfl,rfl,rfl,rfl⟩:=e5.BV;rw[Jc];exact⟨⟨_,[],(Jc _).symm,e3⟩,λx _=>⟨e3,e4,by rw[e7 lo hlo λc hc=>hg c hc _,CG _ _ _ _ hlo,AK rfl]⟩⟩
theorem lP{top:tyI}{at':tyN}{o':Op Int}(h:DE g (MF b k a top) l at' L K o' l')(hs:Seq at' L):
  ((∀u,u∈K->u.a.1=1)/\∀x,o'≠ .ret x)\/
  ∃(K1 K2:List Ch) (L1 L2:List Item) (x0:tyI) (vs:tyL),K=K1++K2/\L=L1++L2/\K1.map Ch.a=(1,BO b a,0)::((Ce k a).map λc=>A8 b k c a).map (λc=>((1,c,0):AD))/\K1.map Ch.res=(x0::vs).map Option.some/\(∀u,u∈K1->AM u.lo u.its<=AM at' L1)/\(∀u,u∈K2->AM at' L1<=u.lo)/\
   (∃cs1 cs2,((Ce k a).map λc=>A8 b k a c)=cs1++cs2/\K2.map Ch.a=cs1.map λc=>((2,c,vs.foldl max x0):AD))/\
   ∀x,o'= .ret x->K2.map Ch.a=((Ce k a).map λc=>A8 b k a c).map (λc=>((2,c,vs.foldl max x0):AD))/\NT K2/\x=B4 (vs.foldl max x0) top:=by
 unfold MF at h;rcases h.Ba with⟨rfl,rfl,hn⟩|⟨o1,rfl,_,_,_,hn⟩|⟨L1,L2,K2,l1,x0,hK,hL,hp,hd⟩
 .exact .inl ⟨λu hu=>by(cases hu),hn⟩
 .exact .inl ⟨λu hu=>by rw[Bq.1 hu],hn⟩
 subst hK;subst hL;obtain⟨s1,s2⟩:=Seq.append.1 hs;rcases T3 _ hd s2 with⟨e1,hn⟩|⟨K3,K4,L3,L4,l3,vs,rfl,rfl,e3,e4,e5,e6,e7⟩
 .refine .inl ⟨λu hu=>?_,hn⟩;rcases BJ.1 hu with rfl|hu
  .rfl
  .exact(e1 u hu).1
 right
 obtain⟨s3,s4⟩:=Seq.append.1 s2;have hw:∀u,u∈K4->AM (AM at' L1) L3<=u.lo:=λu hu=>(e5.within s4 u hu).1
 have hK1:∀u,u∈(⟨(1,BO b a,0),at',L1,l,l1,some x0⟩:Ch)::K3->AM u.lo u.its<=AM at' (L1++L3):=λu hu=>by
  rw[AY];rcases BJ.1 hu with rfl|hu
  .exact Seq.A7 s3
  .exact e6 u hu
 rcases Mk _ e5 s4 with⟨cs1,cs2,q1,q2,hn⟩|⟨K5,K6,L5,L6,l5,rfl,rfl,q3,q4,q5,q6,q7⟩
 .exact⟨_::K3,K4,L1++L3,L4,x0,vs,rfl,(Jt _ _ _).symm,by rw[Gf,e3],by rw[Gf,e4];rfl,hK1,λu hu=>by rw[AY];exact hw u hu,⟨cs1,cs2,q1,q2⟩,λx e=>absurd e (hn x)⟩
 .obtain⟨rfl,rfl,rfl,rfl⟩:=q5.BV;refine⟨_::K3,K5++[],L1++L3,L5++[],x0,vs,rfl,(Jt _ _ _).symm,by rw[Gf,e3],by rw[Gf,e4];rfl,hK1,λu hu=>by rw[AY];exact hw u hu,?_,λx e=>?_⟩
  .rw[Jc];exact⟨_,[],(Jc _).symm,q3⟩
  .rw[Jc];exact⟨q3,q4,(Op.ret.inj e).symm⟩
theorem FL{α:Type}{i:tyI}{g:AD->Op Int}:∀(o:Op α),o.keeps i->(o.all λa=>(g a).keeps i)->(o.sub g).keeps i
 | .ret v,_,_=>trivial
 | .ask a k,h,h2=>Op.F9 (g a) _ h2.1 λx=>FL (k x) (h x) (h2.2 x)
 | .get _ k,h,h2=>λx=>FL (k x) (h x) (h2 x)
 | .set _ _ k,h,h2=>⟨h.1,FL k h.2 h2⟩
 | .note _ k,h,h2=>FL k h h2
 | .live k,h,h2=>λb=>FL (k b) (h b) (h2 b)
theorem Ic{α:Type}{Q:AD->Prop}{g:AD->Op Int}:∀(o:Op α),(o.all λa=>(g a).all Q)->(o.sub g).all Q
 | .ret v,_=>trivial
 | .ask a k,h=>Op.JJ (g a) _ h.1 λx=>Ic (k x) (h.2 x)
 | .get _ k,h=>λx=>Ic (k x) (h x)
 | .set _ _ k,h=>Ic k h
 | .note _ k,h=>Ic k h
 | .live k,h=>λb=>Ic (k b) (h b)
theorem JQ(hg:∀a,CA (g a)){o:Op Int}(h:CA o):CA (o.sub g):=by
 obtain⟨a,k,rfl⟩:=h;obtain⟨a',k',e⟩:=hg a;exact⟨a',λx=>(k' x).bind λy=>(k y).sub g,by show(g a).bind _=_;rw[e];rfl⟩
theorem iJ(h:i<lo+2\/lo+18<=i)(a:AD):(Pd b lo a).keeps i:=by
 unfold Pd;split
 .exact λ_=>trivial
 split
 .exact D8 J _
 split
 .exact D8 J _
 split
 .exact D8 J _
 .exact D8 J _
theorem OY(h:i<lo\/lo+18<=i)(a:AD):(SR b lo a).keeps i:=
 FL _ (UB J a) (Ua (λa _=>iJ J a) a)
theorem dK{Q:AD->Prop}(h:∀a:AD,b<=a.2.1->a.2.1<b+16->Q a)(a:AD):(SR b lo a).all Q:=by
 refine Ic _ (Ua (λa ha=>?_) a);rcases ha with e|e|⟨q,hq,e⟩|⟨e1,e2⟩
 .rw[IT e];exact NF (λa h1 h2=>h a J J) a
 .rw[Iq e];exact NF (λa h1 h2=>h a J J) a
 .rw[Fj hq e];exact NF (λa h1 h2=>h a J J) a
 .rw[Ge e2];exact⟨h a e1 J,λ_=>trivial⟩
theorem Qr(b lo:tyI)(a:AD):CA (SR b lo a):=by
 refine JQ (CE b lo) ?_;unfold cf;split
 .exact⟨_,_,rfl⟩
 .exact⟨_,_,rfl⟩
theorem Fs(b lo:tyI)(a:AD):CA (MH b lo a):=Qr _ _ _
end
end Go.Proofs.YtpodgcpkccpnfaaGreat
