import Derived.Test.YtpodgcpkccpnfaaGreatPk21
set_option linter.unusedVariables false
set_option linter.unusedSimpArgs false
set_option maxRecDepth 20000
set_option maxHeartbeats 40000000
namespace Go.Proofs.YtpodgcpkccpnfaaGreat
variable{u:Ch}{b h lo top v:Int}{K:List Ch}{a c k q t w:Nat}
section
open Go.RowKit
theorem Tn:∀(vs:tyL) (x:tyI),x<=vs.foldl max x/\(∀y,y∈vs->y<=vs.foldl max x)/\(vs.foldl max x=x\/vs.foldl max x∈vs)
 |[],x=>⟨In _,λy hy=>by(cases hy),.inl rfl⟩
 |v::vs,x=>by
  obtain⟨h1,h2,h3⟩:=Tn vs (max x v);show x<=vs.foldl max (max x v)/\(∀y,y∈v::vs->y<=vs.foldl max (max x v))/\(vs.foldl max (max x v)=x\/vs.foldl max (max x v)∈v::vs);refine⟨J,λy hy=>?_,?_⟩
  .rcases BJ.1 hy with rfl|hy
   .omega
   .exact h2 y hy
  .rcases h3 with h3|h3
   .rw[h3];rcases Int.le_total x v with g|g
    .right;rw[show max x v=v by omega];exact .head _
    .left;omega
   .right;exact .tail _ h3
theorem ND{κ x:tyI}:∀(cs:tyL) (K:List Ch),K.map Ch.a=cs.map (λc=>((κ,c,x):AD))->cs.Nodup->∀c,(c∈cs->∃u,K.filter (λu=>D9 c u.a)=[u]/\u∈K/\u.a=(κ,c,x))/\(c∉cs->K.filter (λu=>D9 c u.a)=[])
 |[],K,h,hn,c=>by
  have:K=[]:=by simpa using h
  subst this;exact⟨λhc=>by(cases hc),λ_=>rfl⟩
 |d::cs,[],h,hn,c=>by simp at h
 |d::cs,u::K,h,hn,c=>by
  rw[Gf,Gf,Q8]at h;obtain⟨h1,h2⟩:=h;obtain⟨n1,n2⟩:=Nc.1 hn;obtain⟨g1,g2⟩:=ND cs K h2 n2 c;by_cases hc:d=c
  .subst hc;have:D9 d u.a=true:=by unfold D9;rw[h1];simp
   rw[I2 (p:=λu:Ch=>D9 d u.a) (by exact this),g2 n1];exact⟨λ_=>⟨u,rfl,.head _,h1⟩,λhn'=>absurd (.head _) hn'⟩
  .have:¬D9 c u.a=true:=by unfold D9;rw[h1];simpa using hc
   rw[FY (p:=λu:Ch=>D9 c u.a) (by exact this)];refine⟨λhm=>?_,λhm=>g2 λq=>hm (.tail _ q)⟩;rcases BJ.1 hm with q|q
   .exact absurd q.symm hc
   .obtain⟨v,q1,q2,q3⟩:=g1 q;exact⟨v,q1,.tail _ q2,q3⟩
theorem Bh:c∈Ce k a↔c<k/\c≠a:=by
 unfold Ce;rw[Db,Dz];simp
theorem JR{α β:Type}{f:α->β}:∀{l:List α},l.Nodup->(∀x y,x∈l->y∈l->f x=f y->x=y)->(l.map f).Nodup
 |[],_,_=>List.nodup_nil
 |x::l,hn,hf=>by
  obtain⟨n1,n2⟩:=Nc.1 hn;rw[Gf];refine Nc.2 ⟨λhm=>?_,JR n2 λa b ha hb=>hf a b (.tail _ ha) (.tail _ hb)⟩;obtain⟨y,hy,e⟩:=Cd.1 hm;have:=hf y x (.tail _ hy) (.head _) e;subst this;exact n1 hy
theorem nIq(b:tyI)(k:tyN):((List.range k).map (BO b)).Nodup:=JR List.nodup_range λx y _ _ e=>by unfold BO at e;omega
theorem NI(k a:tyN):(Ce k a).Nodup:=List.Nodup.sublist List.filter_sublist List.nodup_range
theorem Rk{d:tyN}(hc:c≠a)(hd:d≠a)(h:FQ k a c=FQ k a d):c=d:=by
 unfold FQ at h;split at h<;>split at h<;>omega
theorem Lu{a' c':tyN}(ha:a<k)(hc:c<k)(hne:c≠a)(ha':a'<k)(hc':c'<k)(hne':c'≠a')(h:FQ k a c=FQ k a' c'):a=a'/\c=c':=by
 have r1:(if a<c then c-1 else c)<k-1:=by split<;>omega
 have r2:(if a'<c' then c'-1 else c')<k-1:=by split<;>omega
 have key:a=a':=by
  unfold FQ at h;rcases Fq a a' with g|g|g
  .have:=MO (k-1) (show a+1<=a' from g);rw[Nw,MZ]at this;omega
  .exact g
  .have:=MO (k-1) (show a'+1<=a from g);rw[Nw,MZ]at this;omega
 subst key;exact⟨rfl,Rk hne hne' h⟩
theorem D3(ha:a<k)(hc:c<k)(hne:c≠a):k<=FQ k a c/\FQ k a c<k*k:=by
 have r1:(if a<c then c-1 else c)<k-1:=by split<;>omega
 unfold FQ;have h1:=MO (k-1) (show a+1<=k from ha);rw[Nw,MZ]at h1;have h2:k*(k-1)=k*k-k:=by rw[Nat.mul_sub,dE]
 have h3:k<=k*k:=Yh k J;omega
theorem Xl(b:tyI)(k a:tyN):((Ce k a).map λc=>A8 b k a c).Nodup:=JR (NI k a) λx y hx hy e=>Rk (k:=k) (a:=a) (Bh.1 hx).2 (Bh.1 hy).2 (by unfold A8 at e;omega)
theorem Sz(b:tyI)(ha:a<k):((Ce k a).map λc=>A8 b k c a).Nodup:=JR (NI k a) λx y hx hy e=>(Lu (Bh.1 hx).1 ha (λq=>(Bh.1 hx).2 q.symm) (Bh.1 hy).1 ha (λq=>(Bh.1 hy).2 q.symm) (by unfold A8 at e;omega)).1
theorem XF{b lo:tyI}(hlo:0<=lo/\lo<32768){k:tyN}{top:tyI}{F:AD->Op Int}{g:AD->Op Int}(hg:∀c,c∈(List.range k).map (BO b)->∀x,(g (2,c,x)).keeps lo){RG:Int->Prop}(hrg:RG lo){N:tyN}:∀(W:List (Ch×List Ch)) {at':tyN} {σ:Int->Int} {s0:tyN},Bk F RG N at' σ (W.map Prod.fst)->
  (∀u K,(u,K)∈W->∃o' l',DE g (R1 b lo k top u.a.2.2) u.l u.lo u.its K o' l'/\∀v,u.res=some v->o'= .ret v/\l'=u.l')->σ lo=(s0:tyI)->s0+W.length<=500000->
  ∀a,a<k->(∀(κ:tyN) (u':Ch),(part (BO b a) W)[κ]?=some u'->∃u K,W[κ]?=some (u,K)/\u'∈K/\u'.a=(2,BO b a,Dg ((s0+κ+1:tyN):tyI) u.a.2.2 top))/\
   ∀(κ:tyN) (u:Ch) (K:List Ch),W[κ]?=some (u,K)->(∃v,u.res=some v)->∃u',(part (BO b a) W)[κ]?=some u'/\u'∈K/\∃v,u'.res=some v
 |[],at',σ,s0,h,hd,h0,hn,a,ha=>⟨fun κ u' h=>by simp[part]at h,fun κ u K h=>by simp at h⟩
 |(u,K)::W,at',σ,s0,h,hd,h0,hn,a,ha=>by
  obtain⟨g1,g2,g3,g4,g5,g6,g7⟩:=h;dsimp only at g1 g2 g3 g4 g5 g6 g7;obtain⟨o',l',d,hdone⟩:=hd u K (.head _);obtain⟨⟨cs1,cs2,e1,e2⟩,e3⟩:=mY hlo hg d g2;have hs:Ac u.l lo=(s0:tyI):=(g4 lo hrg).trans h0;have hw:wrap64 (Ac u.l lo+1)=((s0+1:tyN):tyI):=by rw[hs];have:=hn;simp at this;rw[IntWalk.wrap64_in _ J];omega
  rw[hw]at e2 e3;have hmem:BO b a∈(List.range k).map (BO b):=Cd.2 ⟨a,Dz.2 ha,rfl⟩;have hnd:=nIq b k;cases hres:u.res with
  |none=>
   have hW:W=[]:=by
    have:=g6 hres;cases W with
    |nil=>rfl
    |cons a b=>cases this
   subst hW;have xd:cs1.Nodup:=by rw[e1]at hnd;exact(lH.1 hnd).1
   obtain⟨f1,f2⟩:=ND cs1 K e2 xd (BO b a);have hp:part (BO b a) [(u,K)]=K.filter λu=>D9 (BO b a) u.a:=by rw[By];exact Jc _
   refine⟨fun κ u' hu'=>?_,fun κ u0 K0 hu0 hv=>?_⟩
   .rw[hp]at hu';by_cases hc:BO b a∈cs1
    .obtain⟨v,q1,q2,q3⟩:=f1 hc;rw[q1]at hu';have hk:κ=0:=by have:=(Be.1 hu').1;simpa using this
     subst hk;have:v=u':=by simpa using hu'
     subst this;exact⟨u,K,rfl,q2,by rw[q3]⟩
    .rw[f2 hc]at hu';simp at hu'
   .have hk:κ=0:=by have:=(Be.1 hu0).1;simpa using this
    subst hk;have:(u,K)=(u0,K0):=by simpa using hu0
    cases this
    rw[hres]at hv;obtain⟨v,hv⟩:=hv;cases hv
  |some v=>
   obtain⟨q1,q2⟩:=hdone v hres;obtain⟨e4,e5,e6⟩:=e3 v q1;obtain⟨f1,f2⟩:=ND _ K e4 hnd (BO b a);obtain⟨w,w1,w2,w3⟩:=f1 hmem;obtain⟨h1,h2⟩:=XF hlo hg hrg W (s0:=s0+1) g7 (λu K hm=>hd u K (.tail _ hm)) (by rw[<-q2];exact e6) (by simp at hn|-;omega) a ha;have hp:part (BO b a) ((u,K)::W)=w::part (BO b a) W:=by rw[By];show K.filter _++_=_;rw[w1];rfl
   rw[hp];refine⟨fun κ u' hu'=>?_,fun κ u0 K0 hu0 hv=>?_⟩
   .cases κ with
    |zero=>
     have:w=u':=by simpa using hu'
     subst this;exact⟨u,K,rfl,w2,by rw[w3]⟩
    |succ κ=>
     obtain⟨u1,K1,r1,r2,r3⟩:=h1 κ u' (Cw hu');exact⟨u1,K1,by simpa using r1,r2,by rw[r3];congr 3;omega⟩
   .cases κ with
    |zero=>
     have:(u,K)=(u0,K0):=by simpa using hu0
     cases this
     exact⟨w,rfl,w2,e5 w w2⟩
    |succ κ=>
     obtain⟨u',r1,r2,r3⟩:=h2 κ u0 K0 (Cw hu0) hv;exact⟨u',by simpa using r1,r2,r3⟩
structure SS where
 r:NX
 ob:Nat
 tb:Nat->Nat
structure UK (b:tyI)(k a:tyN)(top:tyI)(N at':tyN)(W:List (Ch×List Ch))(rs:List SS):Prop where
 at':∀(j:tyN) (x:SS),rs[j]?=some x->∃u K,W[j]?=some (u,K)/\x.r.b=u.fb/\x.r.e=u.e N/\at'<u.fb/\u.fb<x.r.de/\x.r.de<=u.e N/\x.r.de<N/\∃a e y,Item.acc a u.fb e y∈u.its
 own:∀(j:tyN) (x:SS),rs[j]?=some x->∃e,e<=x.r.de/\x.r.b<=x.ob/\B6 N (part (BO b a) W) x.ob e x.r.x0
 Z6:∀(j:tyN) (x:SS),rs[j]?=some x->∀c,c<k->c≠a->∃e,e<=x.r.de/\x.r.b<=x.tb c/\B6 N (part (A8 b k c a) W) (x.tb c) e (x.r.tv c)
 yn:∀(j:tyN) (x:SS),rs[j]?=some x->x.r.x0<=x.r.x
 ge:∀(j:tyN) (x:SS),rs[j]?=some x->∀c,c<k->c≠a->x.r.tv c<=x.r.x
 is:∀(j:tyN) (x:SS),rs[j]?=some x->x.r.x=x.r.x0\/∃c,c<k/\c≠a/\x.r.x=x.r.tv c
 fin:∀(j:tyN) (u:Ch) (K:List Ch),W[j]?=some (u,K)->∀y,u.res=some y->u.e N<N->∃x,rs[j]?=some x/\y=B4 x.r.x top
 put:∀c,c<k->c≠a->∀(j:tyN) (u':Ch),(part (A8 b k a c) W)[j]?=some u'->∃x,rs[j]?=some x/\u'.a=(2,A8 b k a c,x.r.x)/\x.r.de<=u'.lo
 CY:∀c,c<k->c≠a->∀(j:tyN) (x:SS),rs[j]?=some x->x.r.e<N->∃u',(part (A8 b k a c) W)[j]?=some u'/\u'.e N<=x.r.e
 row:∀(j j':tyN) (x x':SS),j<j'->rs[j]?=some x->rs[j']?=some x'->x.r.e<x'.r.b
theorem Od{N:tyN}{c:tyI}{W:List (Ch×List Ch)}{p:Ch×List Ch}{b e:tyN}{x:tyI}(h:B6 N (part c W) b e x):B6 N (part c (p::W)) b e x:=by
 rw[By];exact Jw h
theorem qL(hn:(K.map Ch.a).Nodup){v:Ch}(hu:u∈K)(hv:v∈K)(h:u.a=v.a):u=v:=by
 induction K with
 |nil=>cases hu
 |cons w K ih=>
  rw[Gf]at hn;obtain⟨n1,n2⟩:=Nc.1 hn;rcases BJ.1 hu with hu'|hu'
  .rcases BJ.1 hv with hv'|hv'
   .rw[hu',hv']
   .exact absurd (Cd.2 ⟨v,hv',by rw[<-h,hu']⟩) n1
  .rcases BJ.1 hv with hv'|hv'
   .exact absurd (Cd.2 ⟨u,hu',by rw[h,hv']⟩) n1
   .exact ih n2 hu' hv'
theorem XL{f:AD->Op Int}(hf:∀a,CA (f a)){o:Op Int}(hp:Path (f u.a) u.l u.its o u.l')(hne:u.its≠[]):∃a e x,Item.acc a u.fb e x∈u.its:=by
 obtain⟨a0,k0,e⟩:=hf u.a;rw[e]at hp;rcases hp.Ba with⟨q,_⟩|⟨b,e',x',L',q,_⟩
 .exact absurd q hne
 .have e2:u.fb=b:=by unfold Ch.fb;rw[q];rfl
  exact⟨_,e',x',by rw[e2,q];exact .head _⟩
theorem Q4{b:tyI}{k a:tyN}(ha:a<k){top:tyI}{F g:AD->Op Int}(hgr:∀a,CA (g a))(ub:∀a,CA (F a)){RG:Int->Prop}{N:tyN}:∀(W:List (Ch×List Ch)) {at':tyN} {σ:Int->Int},Bk F RG N at' σ (W.map Prod.fst)->
  (∀u K,(u,K)∈W->∃o' l',DE g (MF b k a top) u.l u.lo u.its K o' l'/\∀v,u.res=some v->o'= .ret v/\l'=u.l')->(∀u K,(u,K)∈W->∀u',u'∈K->∀c,c<k->c≠a->u'.a.2.1=A8 b k a c->u'.a.1=2)->∃rs,UK b k a top N at' W rs
 |[],at',σ,h,hd,hk=>⟨[],⟨λj x h=>by simp at h,λj x h=>by simp at h,λj x h=>by simp at h,λj x h=>by simp at h,λj x h=>by simp at h,λj x h=>by simp at h,λj u K h=>by simp at h,λc _ _ j u' h=>by simp[part]at h,λc _ _ j x h=>by simp at h,λj j' x x' _ h=>by simp at h⟩⟩
 |(u,K)::W,at',σ,h,hd,hk=>by
  have S6:=Bk.order ub h;obtain⟨g1,g2,g3,g4,⟨o2,g5,g5'⟩,g6,g7⟩:=h;dsimp only at g1 g2 g3 g4 g5 g5' g6 g7;obtain⟨o',l',d,hdone⟩:=hd u K (.head _);have OF:=d.within g2
  have hits:∀w,w∈K->w.its≠[]:=λw hw=>by
   have:∀{o o':Op Int} {l l':tyL} {lo:tyN} {L:List Item} {K:List Ch},DE g o l lo L K o' l'->∀w,w∈K->w.its≠[]:=λ{o o' l l' lo L K} hd=>by
    induction hd with
    |nil=>intro w hw;cases hw
    |get _ ih=>exact ih
    |set _ ih=>exact ih
    |live _ ih=>exact ih
    |note p _ ih=>exact ih
    |ask h1 _ ih=>
     intro w hw;rcases BJ.1 hw with rfl|hw
     .exact(hgr _).some h1
     .exact ih w hw
    |stop h1 hn h0=>
     intro w hw;rw[Bq.1 hw];exact h0
   exact this d w hw
  have Qe:∀w,w∈K->w.lo<w.fb/\w.fb<AM w.lo w.its:=λw hw=>by
   obtain⟨o1,hp⟩:=d.path w hw;exact(hgr _).places hp (hits w hw) (OF w hw).2.1
  have stop:(∀w,w∈K->w.a.1=1)->(∀y,u.res=some y->N<=u.e N)->(∀W',W=W'->W≠[]->N<=AM u.lo u.its)->∃rs,UK b k a top N at' ((u,K)::W) rs:=λc1 c2 c3=>by
   obtain⟨rs,hr⟩:=Q4 ha hgr ub W g7 (λu K hm=>hd u K (.tail _ hm)) λu K hm=>hk u K (.tail _ hm)
   have hrs:rs=[]:=by
    cases rs with
    |nil=>rfl
    |cons x rs=>
     exfalso;obtain⟨v,K',q1,q2,q3,q4,q5,q6,q7,_⟩:=hr.at' 0 x rfl;have:=c3 W rfl (by intro e;rw[e]at q1;simp at q1);omega
   subst hrs
   have hno:∀c,c<k->c≠a->part (A8 b k a c) ((u,K)::W)=[]:=λc hc hne=>by
    rw[By,Kt.2 λw hw=>by
     unfold D9;simp only[Fc];intro e;have h1:=hk u K (.head _) w hw c hc hne e;have h2:=c1 w hw
     omega]
    cases e:part (A8 b k a c) W with
    |nil=>rfl
    |cons w AF=>
     obtain⟨x,q1,_⟩:=hr.put c hc hne 0 w (by rw[e];rfl);simp at q1
   refine⟨[],⟨λj x h=>by simp at h,λj x h=>by simp at h,λj x h=>by simp at h,λj x h=>by simp at h,λj x h=>by simp at h,λj x h=>by simp at h,λj v K' hv y hy hlt=>?_,λc hc hne j u' h=>by rw[hno c hc hne]at h;simp at h,λc _ _ j x h=>by simp at h,λj j' x x' _ h=>by simp at h⟩⟩;cases j with
   |zero=>
    have:(u,K)=(v,K'):=by simpa using hv
    cases this
    have:=c2 y hy;omega
   |succ j=>
    obtain⟨x,q1,_⟩:=hr.fin j v K' (Cw hv) y hy hlt;simp at q1
  rcases lP d g2 with⟨c1,hn⟩|⟨K1,K2,L1,L2,x0,vs,e1,e2,e3,e4,e5,e6,⟨cs1,cs2,e7,e8⟩,e9⟩
  .have hres:u.res=none:=by
    cases e:u.res with
    |none=>rfl
    |some v=>exact absurd (hdone v e).1 (hn v)
   refine stop c1 (λy hy=>by rw[hres]at hy;cases hy) λW' _ hne=>?_
   exfalso;have:=g6 hres;cases W with
   |nil=>exact hne rfl
   |cons a b=>cases this
  obtain⟨T,hT⟩:=gX (AM u.lo L1);rw[hT]at e5 e6;have nf:T<=AM u.lo u.its:=by rw[e2,AY,hT];rw[e2]at g2;have:=Seq.A7 (Seq.append.1 g2).2;rw[hT]at this;exact this
  rcases CR T N with sK|sK
  rotate_left
  .have hK2:K2=[]:=by
    cases K2 with
    |nil=>rfl
    |cons w AF=>
     exfalso;have hm:w∈K:=by rw[e1];exact LF _ (.head _)
     have:=e6 w (.head _);have:=Qe w hm;have:=(OF w hm).2.2;omega
   refine stop (λw hw=>?_) (λy hy=>?_) λW' _ _=>J
   .rw[e1,hK2,Jc]at hw;have:w.a∈K1.map Ch.a:=Cd.2 ⟨w,hw,rfl⟩;rw[e3]at this;rcases BJ.1 this with q|q
    .rw[q]
    .obtain⟨c,_,q⟩:=Cd.1 q;rw[<-q]
   .unfold Ch.e;rw[hy];exact DB sK nf
  have xd:(K1.map Ch.a).Nodup:=by
   rw[e3];refine Nc.2 ⟨λhm=>?_,JR (Sz b ha) λx y _ _ e=>by cases e;rfl⟩;obtain⟨c,hc,q⟩:=Cd.1 hm;obtain⟨d',hd',q2⟩:=Cd.1 hc;obtain⟨m1,m2⟩:=Bh.1 hd';have:c=BO b a:=by cases q;rfl
   rw[this]at q2;have:=(D3 m1 ha (λq=>m2 q.symm)).1;unfold A8 BO at q2;omega
  have hlen:K1.length=vs.length+1:=by have:=DJ List.length e4;simpa using this
  have hlen2:(Ce k a).length=vs.length:=by have:=DJ List.length e3;simp at this;omega
  obtain⟨w0,hw0,AGL,ACO⟩:∃w,w∈K1/\w.a=(1,BO b a,0)/\w.res=some x0:=by
   cases K1 with
   |nil=>simp at hlen
   |cons w AF=>
    rw[Gf,Q8]at e3;rw[Gf,Gf,Q8]at e4;exact⟨w,.head _,e3.1,e4.1⟩
  have hvs:∀(i:tyN) (c:tyN),(Ce k a)[i]?=some c->∃w y,w∈K1/\w.a=(1,A8 b k c a,0)/\w.res=some y/\vs[i]?=some y:=λi c hc=>by
   have hi:=(Be.1 hc).1;have hw:K1[i+1]?=some (K1[i+1]'(J)):=gG J;have a1:(K1.map Ch.a)[i+1]?=some (K1[i+1]'(J)).a:=by rw[BY,hw];rfl
   have a2:(K1.map Ch.res)[i+1]?=some (K1[i+1]'(J)).res:=by rw[BY,hw];rfl
   rw[e3,Kk,BY,BY,hc]at a1;rw[e4,Gf,Kk,BY]at a2;cases hv:vs[i]? with
   |none=>rw[hv]at a2;cases a2
   |some y=>
    rw[hv]at a2;exact⟨_,y,KD J,(El a1).symm,(El a2).symm,rfl⟩
  have ni:∀c,∃p:Int×Nat,c∈Ce k a->∃w,w∈K1/\w.a=(1,A8 b k c a,0)/\w.res=some p.1/\w.fb=p.2/\p.1∈vs:=λc=>by
   by_cases hc:c∈Ce k a
   .obtain⟨i,hi,e⟩:=Dj hc;obtain⟨w,y,q1,q2,q3,q4⟩:=hvs i c (by rw[gG hi,e]);exact⟨(y,w.fb),λ_=>⟨w,q1,q2,q3,rfl,BI q4⟩⟩
   .exact⟨(0,0),λh=>absurd h hc⟩
  have bL:∀w,w∈K1->w∈K:=λw hw=>by rw[e1];exact P3 _ hw
  obtain⟨ch,hch⟩:∃ch:Nat->Int×Nat,∀c,c∈Ce k a->∃w,w∈K1/\w.a=(1,A8 b k c a,0)/\w.res=some (ch c).1/\w.fb=(ch c).2/\(ch c).1∈vs:=⟨λc=>Classical.choose (ni c),λc=>Cg (ni c)⟩;obtain⟨m1,m2,m3⟩:=Tn vs x0
  have hue:u.its≠[]:=by
   intro e;have:=Qe w0 (bL w0 hw0);have h2:=(OF w0 (bL w0 hw0));rw[e]at h2;have:AM u.lo []=u.lo:=rfl;omega
  obtain⟨k1,k2,k3,k4⟩:=S6.1 u (.head _);obtain⟨k5,k6⟩:=k3 hue
  have KK:∀w,w∈K->u.fb<=w.fb:=λw hw=>by
   obtain⟨w',hw',e0⟩:∃w',w'=w/\True:=⟨w,rfl,trivial⟩;have hh:=Qe w hw;have hi:=OF w hw
   have:∀(L:List Item) (lo:tyN),Seq lo L->∀a b' e x,Item.acc a b' e x∈L->DR lo L<=b':=λL lo hs a b' e x hm=>by
    cases L with
    |nil=>cases hm
    |cons i L=>
     cases i with
     |note k p=>
      rcases BJ.1 hm with q|q
      .cases q
      .have:=Seq.acc (L:=L) hs.2 q;show p<=b';omega
     |acc a0 b0 e0 x0=>
      rcases BJ.1 hm with q|q
      .cases q;exact A9 _
      .have:=Seq.acc (L:=L) hs.2.2 q;have:=hs.2.1;show b0<=b';omega
   obtain⟨o1,hp⟩:=d.path w hw;obtain⟨a0,k0,e1⟩:=hgr w.a;rw[e1]at hp;rcases hp.Ba with⟨q,_⟩|⟨b1,zP,x1,L',q,_⟩
   .exact absurd q (hits w hw)
   .have hin:=d.acc.2 ⟨w,hw,by rw[q];exact .head _⟩;have:=this u.its u.lo g2 a0 b1 zP x1 hin;have e3:w.fb=b1:=by unfold Ch.fb;rw[q];rfl
    rw[e3];exact this
  have hub:u.fb<T:=by
   have:=Qe w0 (bL w0 hw0);have:=KK w0 (bL w0 hw0);have:=e5 w0 hw0;omega
  have huT:T<=u.e N:=by
   unfold Ch.e;cases u.res with
   |none=>exact BP sK
   |some y=>exact nf
  obtain⟨x,hx⟩:∃x:SS,x=⟨⟨u.fb,T,u.e N,x0,λc=>(ch c).1,vs.foldl max x0⟩,w0.fb,λc=>(ch c).2⟩:=⟨_,rfl⟩
  have hown0:∀W,B6 N (part (BO b a) ((u,K)::W)) w0.fb (AM w0.lo w0.its) x0:=λW=>by
   rw[By];exact Hd ⟨w0,Db.2 ⟨bL w0 hw0,by unfold D9;rw[AGL];simp⟩,rfl,by unfold Ch.e;rw[ACO],ACO,by have:=e5 w0 hw0;omega⟩
  have nj:∀W c,c<k->c≠a->∃e,e<=T/\u.fb<=(ch c).2/\B6 N (part (A8 b k c a) ((u,K)::W)) (ch c).2 e (ch c).1:=λW c hc hne=>by
   obtain⟨w,q1,q2,q3,q4,q5⟩:=hch c (Bh.2 ⟨hc,hne⟩);refine⟨AM w.lo w.its,e5 w q1,by rw[<-q4];exact KK w (bL w q1),?_⟩;rw[By];exact Hd ⟨w,Db.2 ⟨bL w q1,by unfold D9;rw[q2];simp⟩,q4,by unfold Ch.e;rw[q3],q3,by have:=e5 w q1;omega⟩
  have hge:∀c,c<k->c≠a->(ch c).1<=vs.foldl max x0:=λc hc hne=>by
   obtain⟨w,q1,q2,q3,q4,q5⟩:=hch c (Bh.2 ⟨hc,hne⟩);exact m2 _ q5
  have his:vs.foldl max x0=x0\/∃c,c<k/\c≠a/\vs.foldl max x0=(ch c).1:=by
   rcases m3 with q|q
   .exact .inl q
   .right
    obtain⟨i,hi,e⟩:=Dj q;have hio:i<(Ce k a).length:=J;have hc:(Ce k a)[i]?=some (Ce k a)[i]:=gG hio;obtain⟨w,y,r1,r2,r3,r4⟩:=hvs i _ hc;have hmem:(Ce k a)[i]∈Ce k a:=KD hio;obtain⟨w',s1,s2,s3,s4,s5⟩:=hch _ hmem;have:w=w':=qL xd r1 s1 (r2.trans s2.symm);subst this;rw[r3]at s3;rw[gG hi,e]at r4;exact⟨_,(Bh.1 hmem).1,(Bh.1 hmem).2,by rw[<-El s3];exact El r4⟩
  have dw:∀c,c<k->c≠a->K.filter (λw=>D9 (A8 b k a c) w.a)=K2.filter λw=>D9 (A8 b k a c) w.a:=λc hc hne=>by
   rw[e1,IV,Kt.2 λw hw=>?_]
   .rfl
   .unfold D9;simp only[Fc];intro e;have h1:=hk u K (.head _) w (bL w hw) c hc hne e;have:w.a∈K1.map Ch.a:=Cd.2 ⟨w,hw,rfl⟩;rw[e3]at this;rcases BJ.1 this with q|q
    .rw[q]at h1;exact absurd (show(1:tyI)=2 from h1) AQ
    .obtain⟨c',_,q⟩:=Cd.1 q;rw[<-q]at h1;exact absurd (show(1:tyI)=2 from h1) AQ
  have AGN:cs1.Nodup:=by have:=Xl b k a;rw[e7]at this;exact(lH.1 this).1
  have hput:∀c,c<k->c≠a->(K2.filter (λw=>D9 (A8 b k a c) w.a)=[]/\∀y,u.res≠some y)\/∃w,K2.filter (λw=>D9 (A8 b k a c) w.a)=[w]/\w∈K2/\w.a=(2,A8 b k a c,vs.foldl max x0):=λc hc hne=>by
   obtain⟨f1,f2⟩:=ND cs1 K2 e8 AGN (A8 b k a c);by_cases hm:A8 b k a c∈cs1
   .exact .inr (f1 hm)
   .refine .inl ⟨f2 hm,λy hy=>?_⟩;have:=(e9 y (hdone y hy).1).1;rw[e8]at this
    have hinj:cs1=(Ce k a).map λc=>A8 b k a c:=by
     have h2:=DJ (List.map λq:AD=>q.2.1) this;simpa[WY,Function.comp_def]using h2
    exact hm (by rw[hinj];exact Cd.2 ⟨c,Bh.2 ⟨hc,hne⟩,rfl⟩)
  have rest:∃rs,UK b k a top N (AM u.lo u.its) W rs/\(u.res=none->W=[]):=by
   have hW:u.res=none->W=[]:=λe=>by
    have:=g6 e;cases W with
    |nil=>rfl
    |cons a b=>cases this
   obtain⟨rs,hr⟩:=Q4 ha hgr ub W g7 (λu K hm=>hd u K (.tail _ hm)) λu K hm=>hk u K (.tail _ hm)
   exact⟨rs,hr,hW⟩
  obtain⟨rs,hr,hW⟩:=rest
  have hnil:u.res=none->rs=[]:=λe=>by
   have:=hW e;subst this;cases rs with
   |nil=>rfl
   |cons y rs=>
    obtain⟨v,K',q1,_⟩:=hr.at' 0 y rfl;simp at q1
  refine⟨x::rs,⟨λj y hy=>?_,λj y hy=>?_,λj y hy c hc hne=>?_,λj y hy=>?_,λj y hy c hc hne=>?_,λj y hy=>?_,λj v K' hv y hy hlt=>?_,λc hc hne j u' hu'=>?_,λc hc hne j y hy hlt=>?_,λj j' y y' hjj hy hy'=>?_⟩⟩
  .cases j with
   |zero=>
    have:x=y:=by simpa using hy
    subst this;exact⟨u,K,rfl,by rw[hx],by rw[hx],k5,by rw[hx];exact hub,by rw[hx];exact huT,by rw[hx];exact sK,XL ub g5 hue⟩
   |succ j=>
    obtain⟨v,K',q1,q2,q3,q4,q5⟩:=hr.at' j y (Cw hy);exact⟨v,K',by simpa using q1,q2,q3,J,q5⟩
  .cases j with
   |zero=>
    have:x=y:=by simpa using hy
    subst this;rw[hx];exact⟨_,e5 w0 hw0,KK w0 (bL w0 hw0),hown0 W⟩
   |succ j=>
    obtain⟨e,q1,q2,q3⟩:=hr.own j y (Cw hy);exact⟨e,q1,q2,Od q3⟩
  .cases j with
   |zero=>
    have:x=y:=by simpa using hy
    subst this;rw[hx];exact nj W c hc hne
   |succ j=>
    obtain⟨e,q1,q2,q3⟩:=hr.Z6 j y (Cw hy) c hc hne;exact⟨e,q1,q2,Od q3⟩
  .cases j with
   |zero=>
    have:x=y:=by simpa using hy
    subst this;rw[hx];exact m1
   |succ j=>exact hr.yn j y (Cw hy)
  .cases j with
   |zero=>
    have:x=y:=by simpa using hy
    subst this;rw[hx];exact hge c hc hne
   |succ j=>exact hr.ge j y (Cw hy) c hc hne
  .cases j with
   |zero=>
    have:x=y:=by simpa using hy
    subst this;rw[hx];exact his
   |succ j=>exact hr.is j y (Cw hy)
  .cases j with
   |zero=>
    have:(u,K)=(v,K'):=by simpa using hv
    cases this
    exact⟨x,rfl,by rw[hx];exact(e9 y (hdone y hy).1).2.2⟩
   |succ j=>
    obtain⟨z,q1,q2⟩:=hr.fin j v K' (Cw hv) y hy hlt;exact⟨z,by simpa using q1,q2⟩
  .rw[By]at hu';change ((K.filter λw=>D9 (A8 b k a c) w.a)++_)[j]?=some u' at hu';rw[dw c hc hne]at hu';rcases hput c hc hne with⟨p1,p2⟩|⟨w,p1,p2,p3⟩
   .have hres:u.res=none:=by
     cases e:u.res with
     |none=>rfl
     |some y=>exact absurd e (p2 y)
    rw[p1,hW hres]at hu';simp[part]at hu'
   .rw[p1]at hu';cases j with
    |zero=>
     have:w=u':=by simpa using hu'
     subst this;exact⟨x,rfl,by rw[p3,hx],by rw[hx];exact e6 w p2⟩
    |succ j=>
     obtain⟨z,q1,q2,q3⟩:=hr.put c hc hne j u' (Cw hu');exact⟨z,by simpa using q1,q2,q3⟩
  .rw[By];show∃u',((K.filter λw=>D9 (A8 b k a c) w.a)++part (A8 b k a c) W)[j]?=some u'/\_;rw[dw c hc hne];cases j with
   |zero=>
    have:x=y:=by simpa using hy
    subst this;have hlt':u.e N<N:=by rw[hx]at hlt;exact hlt
    rcases hput c hc hne with⟨p1,p2⟩|⟨w,p1,p2,p3⟩
    .exfalso;unfold Ch.e at hlt';cases e:u.res with
     |none=>rw[e]at hlt';exact EL _ hlt'
     |some y=>exact p2 y e
    .rw[p1];refine⟨w,rfl,?_⟩;have hm:w∈K:=by rw[e1];exact LF _ p2
     have h1:=(OF w hm).2.2;unfold Ch.e at hlt';cases e:u.res with
     |none=>rw[e]at hlt';exact absurd hlt' (EL _)
     |some y=>
      obtain⟨z,hz⟩:=(e9 y (hdone y e).1).2.1 w p2;rw[hx];show w.e N<=u.e N;unfold Ch.e;rw[hz,e];exact h1
   |succ j=>
    have hne':u.res≠none:=λe=>by
     have:=hnil e;subst this;simp at hy
    rcases hput c hc hne with⟨p1,p2⟩|⟨w,p1,p2,p3⟩
    .exfalso;cases e:u.res with
     |none=>exact hne' e
     |some y=>exact p2 y e
    .rw[p1];obtain⟨z,q1,q2⟩:=hr.CY c hc hne j y (Cw hy) hlt;exact⟨z,by simpa using q1,q2⟩
  .obtain⟨j',rfl⟩:∃i,j'=i+1:=⟨j'-1,J⟩;have hy2:rs[j']?=some y':=by simpa using hy'
   cases j with
   |zero=>
    have:x=y:=by simpa using hy
    subst this;obtain⟨v,K',q1,q2,q3,q4,q5⟩:=hr.at' j' y' hy2
    have hne':u.res≠none:=λe=>by
     have:=hnil e;subst this;simp at hy2
    rw[hx,q2];show u.e N<v.fb;unfold Ch.e;cases e:u.res with
    |none=>exact absurd e hne'
    |some y=>exact q4
   |succ j=>exact hr.row j j' y y' J (Cw hy) hy2
theorem Bk.mem{f:AD->Op Int}{rg:Int->Prop}{N:tyN}:∀{U:List Ch} {lo:tyN} {σ:Int->Int},Bk f rg N lo σ U->∀u,u∈U->Seq u.lo u.its/\AM u.lo u.its<=N/\∃o,Path (f u.a) u.l u.its o u.l'/\∀v,u.res=some v->o= .ret v
 |[],lo,σ,h,u,hu=>by cases hu
 |v::U,lo,σ,h,u,hu=>by
  rcases BJ.1 hu with rfl|hu
  .exact⟨h.2.1,h.2.2.1,h.2.2.2.2.1⟩
  .exact Bk.mem h.2.2.2.2.2.2 u hu
theorem cF:∀{L:List Item} {lo:tyN},Seq lo L->∀a b e x,Item.acc a b e x∈L->DR lo L<=b
 |[],lo,hs,a,b,e,x,hm=>by cases hm
 | .note k p::L,lo,hs,a,b,e,x,hm=>by
  rcases BJ.1 hm with q|q
  .cases q
  .have:=Seq.acc (L:=L) hs.2 q;show p<=b;omega
 | .acc a0 b0 e0 x0::L,lo,hs,a,b,e,x,hm=>by
  rcases BJ.1 hm with q|q
  .cases q;exact A9 _
  .have:=Seq.acc (L:=L) hs.2.2 q;have:=hs.2.1;show b0<=b;omega
theorem DE.rooted{α:Type}{g:AD->Op Int}(hg:∀a,CA (g a)){o o':Op α}{l l':tyL}{lo:tyN}{L:List Item}(h:DE g o l lo L K o' l'):∀w,w∈K->∃a b e x L',w.its= .acc a b e x::L':=by
 induction h with
 |nil=>intro w hw;cases hw
 |get _ ih=>exact ih
 |set _ ih=>exact ih
 |live _ ih=>exact ih
 |note p _ ih=>exact ih
 | @ask a k l l1 l' lo L1 L K o' x h1 _ ih=>
  intro w hw;rcases BJ.1 hw with rfl|hw
  .obtain⟨a0,k0,e⟩:=hg a;rw[e]at h1;obtain⟨b,e',x',L',q,_⟩:=h1.EO;exact⟨_,_,_,_,_,q⟩
  .exact ih w hw
 | @stop a k l l1 lo L1 o1 h1 hn h0=>
  intro w hw;rw[Bq.1 hw];obtain⟨a0,k0,e⟩:=hg a;rw[e]at h1;rcases h1.Ba with⟨q,_⟩|⟨b,e',x',L',q,_⟩
  .exact absurd q h0
  .exact⟨_,_,_,_,_,q⟩
theorem DE.zp{α:Type}{g:AD->Op Int}(hg:∀a,CA (g a)){o o':Op α}{l l':tyL}(h:DE g o l u.lo u.its K o' l')(hs:Seq u.lo u.its):∀w,w∈K->u.fb<=w.fb:=λw hw=>by
 obtain⟨a,b,e,x,L',q⟩:=h.rooted hg w hw;have:=cF hs a b e x (h.acc.2 ⟨w,hw,by rw[q];exact .head _⟩);have e2:w.fb=b:=by unfold Ch.fb;rw[q];rfl
 rw[e2];exact this
theorem Wv(hlo:0<=lo/\lo+18<=32768){A:Nat->AD->Nat->Nat->Int->Prop}{N:tyN}{cells rg:Int->Prop}{U:Nat->List Ch}(h:Wu (SR b lo) A N cells rg U)(hrg:∀i,lo<=i->i<lo+18->rg i)(hcs:∀c,b<=c->c<b+16->cells c)
  (hs:∀c,b<=c->c<b+4->GH A N c Bo)   (hu:u∈U t) (hk:u.a.1=1) {x:tyI} (hx:u.res=some x) (he:u.e N<N):0<=x/\x<=Bo:=by
 obtain⟨W,w1,w2,_⟩:=R2 hlo h hrg hcs;obtain⟨⟨u',K⟩,hm,e0⟩:=Cd.1 (show u∈(W t).map Prod.fst by rw[w1];exact hu);have e1:u'=u:=e0;subst e1;obtain⟨_,o',l',d,hd⟩:=w2 t u' K hm;obtain⟨m1,m2,_⟩:=(h.uses t).mem u' hu;unfold cf at d;rw[AK hk]at d;obtain⟨_,_,hor⟩:=WO hlo (N:=N) d m1 m2;rcases hor with⟨_,hn⟩|⟨r,f,hr⟩
 .exact absurd (hd x hx).1 (hn x)
 .obtain⟨q1,q2,_⟩:=hr.fin x (hd x hx).1;have he':r.de<N:=by rw[q1];unfold Ch.e at he;rw[hx]at he;exact he
  obtain⟨_,_,q3⟩:=hr.data he';have pb:r.p=0\/r.p=1:=by obtain⟨c,y,_,_,_,_,_,q⟩:=hr.mL;rw[q];exact IA y
  have ib:=hr.i;have:=(hs (b+(2*r.p+r.i)) J J).1 t _ _ _ (h.inl t u' hu _ _ _ _ q3) he';rw[q2]at this;exact this
theorem Fp(hh:0<=h/\h<=1048576)(ht:0<=top/\top<=1048576)(hv:0<=v/\v<=top):Dg h v top=h*(top+1)+v:=by
 unfold Dg;rw[Bu h _ hh.1 hh.2 J,Bu top _ ht.1 ht.2 J,Bu v top hv.1 hv.2 J]
theorem unpack_pack(hh:0<=h/\h<=1048576)(ht:0<=top/\top<=1048576)(hv:0<=v/\v<=top):B4 (Dg h v top) top=v/\DW (Dg h v top) top=h:=by
 rw[Fp hh ht hv];have h1:h*(top+1)<=1048576*1048577:=vw hh.2 J J J;have h0:0<=h*(top+1):=aI hh.1 J;have hc:BC (h*(top+1)+v) 0 4398046511104=h*(top+1)+v:=by unfold BC;rw[AI J,AI J]
 unfold B4 DW;rw[hc,Bu top _ ht.1 ht.2 J]
 constructor
 .rw[Int.add_comm,Int.add_mul_emod_self_right,Int.emod_eq_of_lt hv.1 J]
 .rw[Int.add_comm,Int.add_mul_ediv_right _ _ J,Int.ediv_eq_zero_of_lt hv.1 J,Rz]
theorem lY{h' v':tyI}(hh:0<=h)(hl:h<h')(hh':h'<=1048576)(ht:0<=top/\top<=1048576)(hv:0<=v/\v<=top)(hv':0<=v'/\v'<=top):Dg h v top<Dg h' v' top:=by
 rw[Fp ⟨hh,J⟩ ht hv,Fp ⟨J,hh'⟩ ht hv'];have:=TQ (show h+1<=h' by omega) (show 0<=top+1 by omega);rw[Int.add_mul,Int.one_mul]at this;omega
theorem j6(hh:0<=h/\h<=500000)(ht:0<=top/\top<=1048576)(hv:0<=v/\v<=top):0<=Dg h v top/\Dg h v top<=Bo:=by
 rw[Fp ⟨hh.1,J⟩ ht hv];have h1:h*(top+1)<=500000*1048577:=vw hh.2 J J J;have h0:0<=h*(top+1):=aI hh.1 J;unfold Bo;omega
theorem Mf{Q:AD->Prop}{x:tyI}:∀(cs:tyL) {k:Op Int},(∀c,c∈cs->Q (2,c,x))->k.all Q->(De x cs k).all Q
 |[],k,h,hk=>hk
 |c::cs,k,h,hk=>⟨h c (.head _),λ_=>Mf cs (λc hc=>h c (.tail _ hc)) hk⟩
theorem T9{Q:AD->Prop}:∀(cs:tyL) {x:tyI} {k:Int->Op Int},(∀c,c∈cs->Q (1,c,0))->(∀x,(k x).all Q)->(MU cs x k).all Q
 |[],x,k,h,hk=>hk x
 |c::cs,x,k,h,hk=>⟨h c (.head _),λy=>T9 cs (λc hc=>h c (.tail _ hc)) hk⟩
theorem Jz{i:tyI}{x:tyI}:∀(cs:tyL) {k:Op Int},k.keeps i->(De x cs k).keeps i
 |[],k,hk=>hk
 |c::cs,k,hk=>λ_=>Jz cs hk
theorem Pr{i:tyI}:∀(cs:tyL) {x:tyI} {k:Int->Op Int},(∀x,(k x).keeps i)->(MU cs x k).keeps i
 |[],x,k,hk=>hk x
 |c::cs,x,k,hk=>λy=>Pr cs hk
def tP (b:tyI)(k:tyN)(a:tyN)(q:AD):Prop:=(q.1=1/\(q.2.1=BO b a\/∃c,c<k/\c≠a/\q.2.1=A8 b k c a))\/(q.1=2/\∃c,c<k/\c≠a/\q.2.1=A8 b k a c)
theorem Qs{Q:AD->Prop}(h:∀q,tP b k a q->Q q):(MF b k a top).all Q:=by
 refine⟨h _ (.inl ⟨rfl,.inl rfl⟩),λx=>T9 _ (λc hc=>?_) λx=>Mf _ (λc hc=>?_) trivial⟩
 .obtain⟨d,hd,rfl⟩:=Cd.1 hc;exact h _ (.inl ⟨rfl,.inr ⟨d,(Bh.1 hd).1,(Bh.1 hd).2,rfl⟩⟩)
 .obtain⟨d,hd,rfl⟩:=Cd.1 hc;exact h _ (.inr ⟨rfl,d,(Bh.1 hd).1,(Bh.1 hd).2,rfl⟩)
theorem SB{Q:AD->Prop}(h:∀a x,a<k->Q (2,BO b a,x)):(R1 b lo k top v).all Q:=by
 refine λs=>Mf _ (λc hc=>?_) trivial
 obtain⟨d,hd,rfl⟩:=Cd.1 hc;exact h d _ (Dz.1 hd)
theorem RK{i:tyI}:(MF b k a top).keeps i:=λx=>Pr _ λx=>Jz _ trivial
theorem RT{i:tyI}(h:i≠lo):(R1 b lo k top v).keeps i:=λs=>⟨λe=>h e.symm,Jz _ trivial⟩
theorem NH{n:tyN}(hw:w<n)(ht:t<n)(hne:t≠w):CL w t<n-1:=by unfold CL;split<;>omega
def C7 (w a:tyN):Nat:=if a<w then a else a+1
theorem OC(hne:t≠w):C7 w (CL w t)=t:=by unfold C7 CL;split<;>split<;>omega
theorem Fb:CL w (C7 w a)=a:=by unfold C7 CL;split<;>split<;>omega
theorem Mt:C7 w a≠w:=by unfold C7;split<;>omega
theorem If(m:tyN){a:AD}(h:a.2.1=b+16*(m:tyI)):MH b lo a=SR (b+16*(m:tyI)) (lo+(2+18*(m:tyI))) a:=by
 unfold MH;rw[h,show(b+16*(m:tyI)-b)/16=(m:tyI) by omega]
end
section
open Go.RowKit Go.Shelf
def ci (b lo:tyI)(k:tyN)(top v:tyI):Op Int:= .get lo λs=> .set lo (wrap64 (s+1)) (De (Dg (wrap64 (s+1)) v top) ((List.range k).map (BO b)) (.set (lo+1) v (.ret 0)))
theorem Pj(x:tyI)(K:Op Int):∀l,(De x l (.ret 0)).bind (λ_=>K)=De x l K
 |[]=>rfl
 |c::cs=>by
  show Op.ask _ _=Op.ask _ _;congr 1;funext _;exact Pj x K cs
theorem XC(f:AD->Op Int)(b lo:tyI)(k:tyN)(top v:tyI):(ci b lo k top v).sub f=((R1 b lo k top v).sub f).bind λ_=> .set (lo+1) v (.ret 0):=by
 have e:ci b lo k top v=(R1 b lo k top v).bind λ_=> .set (lo+1) v (.ret 0):=by
  show Op.get _ _=Op.get _ _;congr 1;funext s;show Op.set _ _ _=Op.set _ _ _;congr 1;exact(Pj _ _ _).symm
 rw[e,Ja];rfl
theorem Pc{P:Program}{f:FuncId}{fn:Func}{c:Code}{args:Array Value}{w:tyW}{R:Ending->World->Prop}(hf:P.funcs[f]?=some fn)(hb:fn.body=some c)
  (h:c.wp P (bodyPostM Fence.wide 3 P fn R) {tmps:=args++Array.replicate (fn.ntmps-args.size) undef,defers:=[]} w):Calls P f args w R:=
 (callsIn_wide (n:=3)).1 (callsIn_of_wp_marks hf hb trivial (wpIn_wide.2 h))
theorem II{w W:tyW}{g B q0 q1:tyN}{L:List (Nat×Array Value×TypeId)}{s:TS}{k n wr rd tp:tyI}{t t0:TypeId}{p:tyV}(h:Bx w g B L W s)(h1:(q1,#[.int .i64 k,.int .i64 b,.int .i64 lo,.int .i64 n,.int .i64 wr,.int .i64 rd,.int .i64 tp],t)∈L)(h0:(q0,#[p],t0)∈L):
  V W q0 0 p/\Ji q1 k b lo n wr rd tp W:=
 ⟨h.cell h0 0,⟨h.cell h1 0,h.cell h1 1,h.cell h1 2,h.cell h1 3⟩,h.cell h1 4,h.cell h1 5,h.cell h1 6⟩
theorem Jj{i:tyN}(h:i<q):(List.range q).drop i=i::(List.range q).drop (i+1):=by
 rw[List.drop_eq_getElem_cons (by rw[Uq];exact h),qh]
theorem Qq(k b lo rd top v:tyI)(n wr:tyN)(g B:tyN)(s:TS)(W:tyW)(h:AX W g B s)(hn:2<=n/\n<=8)(hw:wr<n)(hb:0<=b/\b<=700000)(hl:0<=lo/\lo<=700000)(hv:0<=v/\v<=top/\top<=1048576):
  Calls Tryz.prog 262 #[pT g,.agg #[k,b,lo,n,wr,rd,top],wr,v] W (AP Kf g B W (((ci b lo (n-1) top v).sub (MH b lo)).BH s)):=by
 obtain⟨R,hR⟩:=gX (((ci b lo (n-1) top v).sub (MH b lo)).BH s);rw[hR];have HE:=I (show(Op.get lo λx=>Op.set lo (wrap64 (x+1)) ((De (Dg (wrap64 (x+1)) v top) ((List.range (n-1)).map (BO b)) (.set (lo+1) v (.ret 0))).sub (MH b lo))).BH s=R from hR);have ZB:=I λW=>Im k b lo rd top n wr W J hw
 have Sc:=I λW=>FJ n W J
 have M2:=I λW=>show Calls Tryz.prog 129 #[top,O 1048576] W _ from Cu top 1048576 W
 rw[Bu top 1048576 J hv.2.2 AQ]at M2;have Vm:=I λW=>show Calls Tryz.prog 129 #[v,top] W _ from Cu v top W
 rw[Bu v top hv.1 hv.2.1 J]at Vm;have uT:=I λ(i:tyN) (hi:i<=8) W=>Oz k b lo n wr rd top i W ⟨hb.1,J⟩ ⟨hl.1,J⟩ J
 have dh:=I λ(i:tyN) (hi:i<=8) (x:tyI) s W (ht:AX W g B s)=>Mg 5 (b+16*(i:tyI)) (lo+(2+18*(i:tyI))) n wr rd 1099511627776 (b+16*(i:tyI)) x g B s W ht J J J J
 have y0:=(C0 lo J J).1;have y1:=(C0 (lo+1) J J).1;obtain⟨q,hq⟩:∃q:Nat,n-1=q:=⟨_,rfl⟩;have y2:wrap64 ((n:tyI)-1)=q:=by rw[(C0 _ J J).1];omega
 have HQ:=I (show q<=7 from J);rw[hq]at HE;have HB0:=I (((Bx.start h).alloc #[pT g] 164).alloc #[k,b,lo,n,wr,rd,top] 130);obtain⟨W2,hW2⟩:=gX ((W.alloc (Y #[pT g] 164)).alloc (Y #[k,b,lo,n,wr,rd,top] 130));rw[hW2,Cy]at HB0;obtain⟨q0,hq0⟩:=gX W.heap.size;have HW2:=I hW2;have HQ0:=I hq0;rw[hq0]at HB0;have jW:((wr:tyI) !=wr)=false:=Az;clear hq hn hw hb hl hv h hR hW2 hq0;refine Pc Tryz.func262 rfl ?_;simp only[Tryz.ntmps262,fa,Qy,Rn,Nat.reduceAdd,Nat.reduceSub,jn,lW,kQ,ld,PL,ak];go_upto_region 1 with fail;rw[HW2,HQ0];obtain⟨m0,⟨c0,c1,c2,c3⟩,c4,c5,c6⟩:=II HB0 (.head _) On;go_wp2_with fail;refine(ZB _).mono ?_;rintro e w1 ⟨rfl,hu1⟩;have HB1:=I (HB0.up hu1);clear hu1 HB0 m0 c0 c1 c2 c3 c4 c5 c6 ZB;obtain⟨m0,⟨c0,c1,c2,c3⟩,c4,c5,c6⟩:=II HB1 (.head _) On;go_wp2_with fail;refine(M2 _).mono ?_;rintro e _ ⟨rfl,rfl⟩;go_wp2_with fail;refine(Vm _).mono ?_;rintro e _ ⟨rfl,rfl⟩;go_wp2_with fail;refine(EN HB1.tape HE).mono ?_;rintro e _ ⟨x,rfl,rfl,E1⟩;go_wp2_with fail;refine(Ff HB1.tape E1.out).mono ?_;rintro e w2 ⟨rfl,s2,H2,K2,E2⟩;have HB2:=I (HB1.call K2.out H2);clear m0 c0 c1 c2 c3 c4 c5 c6 HE E1 HB1 H2 K2 M2 Vm;go_wp2_with fail;refine(RN _ _ _ _).mono ?_;rintro e w3 ⟨rfl,rfl⟩;generalize Dg (wrap64 (x+1)) v top=z at*;have HB3:=I (HB2.alloc #[z] 3);obtain⟨m0,⟨c0,c1,c2,c3⟩,c4,c5,c6⟩:=II HB3 On P4;go_wp2_with fail;refine(Sc _).mono ?_;rintro e w4 ⟨rfl,hw4⟩;subst hw4;have IM:=I ((HB3.alloc #[q] 3).alloc #[O (-1)] 3);obtain⟨xb,hxb⟩:=gX w3.heap.size;obtain⟨w5,V7⟩:=gX (w3.alloc (Y #[z] 3));rw[hxb]at HB3 IM|-;rw[V7]at HB3 IM|-;obtain⟨kb,hkb⟩:=gX w5.heap.size;rw[Cy]at IM;clear m0 c0 c1 c2 c3 c4 c5 c6 hxb V7 HB2;go_wp2_with fail;refine(Ou _ _ _).mono ?_;rintro e w6 ⟨rfl,hw6⟩;rw[hkb,<-hw6]at IM;rw[hkb];clear hw6 hkb HB3;go_wp2_with fail;have HZ:=I (show W.heap.size<=w6.heap.size from IM.tk.size)
 refine Qx (k:=q) (gf:=303) (lb:= #[.pointer (some (aD kb 0)),.pointer (some (aD (kb+1) 0))]) Ay Ay Ay rfl (enters_of Tryz.func303 Ay rfl)
  (λi W'=> ∃s,Hid (Bx W g B [(kb+1,#[O (-1)],3),(kb,#[q],3),(xb,#[z],3),(q0+1,#[k,b,lo,n,wr,rd,top],130),(q0,#[pT g],164)] W' s)/\Hid (((De z (((List.range q).drop i).map (BO b)) (.set (lo+1) v (.ret 0))).sub (MH b lo)).BH s=R))
  (λch W'=> ∃s',Hid (ch=JL g/\A5 W' g B 2 s'/\TK g B W W'/\R=(none,s')))
  (λi X AG row ⟨s,hb,hr⟩ hg hrow=>⟨s,I (hb.out.grow hg λr e=>⟨DB HZ (hrow r e).1,(hrow r e).2⟩),hr⟩) ⟨s2,IM,E2⟩ (λi=>(i:tyI)≠ -1)
  (λl AC Jp X hJ hs hY h0=>Oc l kb (kb+1) q (-1) (by have:=HQ.out;omega) AC Jp (λi W' hj=>by
   obtain⟨s,hb,_⟩:=hJ i W' hj
   exact⟨hb.out.cell On 0,hb.out.cell (.head _) 0⟩) hs hY X h0)
  (λi W' h hw=>absurd J hw) 11 ?hassign ?hbody ?hdone ?hpan
 case hassign=>exact λi W' K hK=> .inl hK
 case hbody=>
  rintro i W' hi _ ⟨s4,hb,hr⟩ _
  have wK:=I (KV (If i rfl) (show((De z (BO b i::((List.range q).drop (i+1)).map (BO b)) (.set (lo+1) v (.ret 0))).sub (MH b lo)).BH s4=R from by
   have:=hr.out;rw[Jj hi]at this
   exact this))
  have HI:=I (show i<=8 from by have:=HQ.out;omega)
  have HS:=I (λ(W'':tyW) (s5:TS) (hb:Bx W g B [(kb+1,#[O (-1)],3),(kb,#[q],3),(xb,#[z],3),(q0+1,#[k,b,lo,n,wr,rd,top],130),(q0,#[pT g],164)] W'' s5)=>(show(V W'' q0 0 (pT g)/\V W'' xb 0 z)/\Ji (q0+1) k b lo n wr rd top W'' from
   ⟨⟨(II hb KQ LY).1,hb.cell P4 0⟩,(II hb KQ LY).2⟩))
  have FA:=I (hb.out.up (AV W').drew);refine vS (S:=λw'=>(V w' q0 0 (pT g)/\V w' xb 0 z)/\Ji (q0+1) k b lo n wr rd top w') _ _ _ _ ?_;have hH0:=HS _ _ FA;have HT:=I hb.out.tape.1;have K5:=I (TK.Bp (g:=g) (B:=B) (AV W').drew);clear hb hr hi
  try simp only[pS]
  refine tk 0 hH0 ?_
  try simp only[pS]
  refine tk 1 hH0 ?_
  try simp only[pS]
  refine tk 2 hH0 ?_
  try simp only[pS]
  refine tk 4 hH0 ?_
  try simp only[pS]
  refine ry 3 (λK hK=>?_);go_simp;refine(uT i HI _).mono ?_;rintro e w7 ⟨rfl,Qd⟩;have xe:=I (FA.up Qd);have K7:=I (K5.out.trans (TK.Bp Qd));clear Qd;refine bk hK (HS _ _ xe) λhH1=>?_
  refine ry 5 (λK hK=>?_);go_simp;refine(Aw (dh i HI z _ _ xe.tape) wK).mono ?_;rintro e w8 (⟨s8,rfl,H8,J8,E8⟩|⟨y,s8,rfl,H8,J8,E8⟩)
  .dsimp only;clear hK K;exact⟨rfl,(K7.out.trans J8.out).keeps HT _,s8,I ⟨rfl,H8,xe.tk.trans J8.out,E8.out⟩⟩
  have jX:=I (xe.call J8.out H8);refine bk hK (HS _ _ jX) λhH2=>?_
  refine dz ?_;exact⟨(K7.out.trans J8.out).keeps HT _,s8,jX,E8⟩
 case hdone=>
  rintro D W' hD ⟨s4,hb,hr⟩ jC;obtain⟨m0,⟨c0,c1,c2,c3⟩,c4,c5,c6⟩:=II hb.out KQ LY
  have E3:=I (show(Op.set (lo+1) v (.ret 0)).BH s4=R from by
   have:=hr.out;rw[kM Az]at this
   exact this)
  have HDW:=I (DB HZ hD);have HDF:=I jC;clear hr hD jC;go_wp2_with fail;refine(Ff hb.out.tape E3.out).mono ?_;rintro e w7 ⟨rfl,s7,H7,K7,E7⟩;have xe:=I (hb.out.call K7.out H7);have HD7:=I (K7.out.Qb hb.out.tape.1 HDF rfl);have dy:=I (xe.grow (grownBy_putObj' w7 D (.deferred none)) (λr e=>by cases e;exact⟨HDW,_,HD7,rfl⟩));clear m0 c0 c1 c2 c3 c4 c5 c6 xe hb H7 K7 E3;go_wp2_with fail;refine⟨Az,.inl ⟨_,_,rfl,run_takeDeferred HD7,?_⟩⟩;exact⟨_,qs rfl _ _ _,AP.some (v:=(0:tyI)) E7.out.symm ⟨rfl,dy.tape,dy.tk⟩⟩
 case hpan=>
  rintro D ch W' hD ⟨s4,hh⟩ jC;obtain⟨rfl,h1,h2,h3⟩:=hh.out;refine⟨Az,.inl ⟨_,_,rfl,run_takeDeferred jC,?_⟩⟩;exact AP.none h3 ⟨rfl,h1.off (B5 IM.gs (DB HZ hD)) _ jC rfl,h2.off IM.gs (DB HZ hD) _⟩
def rem (q a i:tyN):List Nat:=((List.range q).drop i).filter λc=>decide (c≠a)
theorem WG{i:tyN}(h:i<q)(hn:i≠a):rem q a i=i::rem q a (i+1):=by
 unfold rem;rw[Jj h,I2 (Cw hn)]
theorem Xa(i:tyN)(hn:i=a):rem q a i=rem q a (i+1):=by
 unfold rem;rcases CR i q with h|h
 .rw[Jj h,FY (Cw hn)]
 .rw[kM (Cw h),kM (by simp;omega)]
theorem cz(q a:tyN):rem q a q=[]:=by unfold rem;rw[kM Az];rfl
def mJ (g B:tyN)(W:tyW)(R:Option Int×TS)(ch:List PanicEntry)(W':tyW):Prop:= ∃s',ch=JL g/\A5 W' g B 2 s'/\TK g B W W'/\R=(none,s')
def qC (ds:List Deferred)(Rp:List PanicEntry->World->Prop):Exit->Act->World->Prop
 | .panic ch,a,w=>a.defers=ds/\Rp ch w
 |_,_,_=>False
theorem dB{c:Code}{K:Act->World->Prop}{P:Program}{fn:Func}{R:Ending->World->Prop}{n:tyN}{a:Act}{w:tyW}(ds:List Deferred)(Rp:List PanicEntry->World->Prop)(hp:∀tmps ch w,Rp ch w->LeavesInM Fence.wide n P fn tmps R ds (.panicking ch) w)(h:c.wp P (Exit.then K (qC ds Rp)) a w):
  c.wp P (Exit.then K (bodyPostM Fence.wide n P fn R)) a w:=wp_mono h λe a w q=>by
 cases e with
 |normal=>exact q
 |panic ch=>
  obtain⟨rfl,q⟩:=q;exact hp _ _ _ q
 |exit _=>exact q.elim
 |goto _=>exact q.elim
 |ret=>exact q.elim
 |outgrown=>exact q.elim
theorem BN{w W:tyW}{g B q0 r1 ab qb:tyN}{L:List (Nat×Array Value×TypeId)}{s:TS}{k n wr rd tp va vq:tyI}{t t0 t1 t2:TypeId}{p:tyV}(h:Bx w g B L W s)(h1:(r1,#[.int .i64 k,.int .i64 b,.int .i64 lo,.int .i64 n,.int .i64 wr,.int .i64 rd,.int .i64 tp],t)∈L)(h0:(q0,#[p],t0)∈L)(h2:(ab,#[.int .i64 va],t1)∈L)(h3:(qb,#[.int .i64 vq],t2)∈L):
  ((V W q0 0 p/\V W ab 0 va)/\V W qb 0 vq)/\Ji r1 k b lo n wr rd tp W:=
 ⟨⟨⟨h.cell h0 0,h.cell h2 0⟩,h.cell h3 0⟩,⟨h.cell h1 0,h.cell h1 1,h.cell h1 2,h.cell h1 3⟩,h.cell h1 4,h.cell h1 5,h.cell h1 6⟩
theorem RS(k b lo rd top:tyI)(n wr:tyN)(g B:tyN)(s:TS)(W:tyW)(h:AX W g B s)(hn:2<=n/\n<=8)(hw:wr<n)(hl:0<=lo/\lo<=700000):
  Calls Tryz.prog 256 #[pT g,.agg #[k,b,lo,n,wr,rd,top],wr] W (AP encI g B W ((Op.get (lo+1) .ret:Op Int).BH s)):=by
 have ZB:=I λW=>Im k b lo rd top n wr W J hw
 have y1:=(C0 (lo+1) J J).1;have HB0:=I (((Bx.start h).alloc #[pT g] 164).alloc #[k,b,lo,n,wr,rd,top] 130);obtain⟨W2,hW2⟩:=gX ((W.alloc (Y #[pT g] 164)).alloc (Y #[k,b,lo,n,wr,rd,top] 130));rw[hW2,Cy]at HB0;obtain⟨q0,hq0⟩:=gX W.heap.size;have HW2:=I hW2;have HQ0:=I hq0;rw[hq0]at HB0;have jW:((wr:tyI)==wr)=true:=Az;clear hn hw hl h hW2 hq0;go_enter Tryz.func256,Tryz.ntmps256;go_upto_region 1 with fail;rw[HW2,HQ0];obtain⟨m0,⟨c0,c1,c2,c3⟩,c4,c5,c6⟩:=II HB0 (.head _) On;go_wp2_with fail;refine(ZB _).mono ?_;rintro e w1 ⟨rfl,hu1⟩;have HB1:=I (HB0.up hu1);clear hu1 HB0 m0 c0 c1 c2 c3 c4 c5 c6 ZB;obtain⟨m0,⟨c0,c1,c2,c3⟩,c4,c5,c6⟩:=II HB1 (.head _) On;go_wp2_with fail;refine(Vd g B (lo+1) s _ HB1.tape).mono ?_;rintro e _ ⟨rfl,rfl⟩
 go_wp2
 go_ret;exact AP.some rfl ⟨rfl,HB1.tape,HB1.tk⟩
theorem RZ(k b lo rd top:tyI)(n wr me:tyN)(g B:tyN)(s:TS)(W:tyW)(h:AX W g B s)(hn:2<=n/\n<=8)(hw:wr<n)(hm:me<n)(hne:me≠wr)(hb:0<=b/\b<=700000)(hl:0<=lo/\lo<=700000)(ht:0<=top/\top<=1048576):
  Calls Tryz.prog 256 #[pT g,.agg #[k,b,lo,n,wr,rd,top],me] W (AP encI g B W (((MF b (n-1) (CL wr me) top).sub (MH b lo)).BH s)):=by
 obtain⟨R,hR⟩:=gX (((MF b (n-1) (CL wr me) top).sub (MH b lo)).BH s);rw[hR];have ZB:=I λW=>Im k b lo rd top n wr W J hw
 have nk:=I λW=>eQ k b lo rd top n wr me W J hw hm hne
 have ha:CL wr me<n-1:=by unfold CL;split<;>omega
 obtain⟨a,hae⟩:=gX (CL wr me);rw[hae]at hR nk ha;have Sc:=I λW=>FJ n W J
 have M2:=I λW=>show Calls Tryz.prog 129 #[top,O 1048576] W _ from Cu top 1048576 W
 rw[Bu top 1048576 ht.1 ht.2 AQ]at M2;have uT:=I λW=>Oz k b lo n wr rd top a W ⟨hb.1,J⟩ ⟨hl.1,J⟩ J
 obtain⟨q,hq⟩:∃q:Nat,n-1=q:=⟨_,rfl⟩;have y2:wrap64 ((n:tyI)-1)=q:=by rw[(C0 _ J J).1];omega
 rw[hq]at hR ha;have bM:=I λ(i j:tyN) (hi:i<q) (hj:j<q) (hij:j≠i) W=>Zx k b lo n wr rd top q i j W ⟨hb.1,J⟩ ⟨hl.1,J⟩ J hi hj hij
 have mz:=I (show∀i j:Nat,i<q->j<q->FQ q i j<=100 from λi j hi hj=>by
  have h6:i*(q-1)<=6*6:=LZ J J;unfold FQ
  split<;>omega)
 have uc:=I λ(m:tyN) (hm:m<=100) s W (ht:AX W g B s)=>Rr 5 (b+16*(m:tyI)) (lo+(2+18*(m:tyI))) n wr rd 1099511627776 (b+16*(m:tyI)) g B s W ht J J J J
 have dh:=I λ(m:tyN) (hm:m<=100) (x:tyI) s W (ht:AX W g B s)=>Mg 5 (b+16*(m:tyI)) (lo+(2+18*(m:tyI))) n wr rd 1099511627776 (b+16*(m:tyI)) x g B s W ht J J J J
 have HQ:=I (show q<=7/\a<q from⟨J,ha⟩);have HE:=I (KV (If a rfl) (show((MF b q a top).sub (MH b lo)).BH s=R from hR));have HB0:=I (((Bx.start h).alloc #[pT g] 164).alloc #[k,b,lo,n,wr,rd,top] 130);obtain⟨W2,hW2⟩:=gX ((W.alloc (Y #[pT g] 164)).alloc (Y #[k,b,lo,n,wr,rd,top] 130));rw[hW2,Cy]at HB0;obtain⟨q0,hq0⟩:=gX W.heap.size;obtain⟨r1,hr1⟩:=gX (q0+1);have HW2:=I hW2;have HQ0:=I hq0;have HR1:=I hr1;rw[hq0,hr1]at HB0;have hmw:((me:tyI)==wr)=false:=by rw[Dy];omega
 clear hq hn hw hm hne hb hl ht h hR hW2 hq0 hr1 hae ha;refine Pc Tryz.func256 rfl ?_;simp only[Tryz.ntmps256,fa,Qy,Rn,Nat.reduceAdd,Nat.reduceSub,jn,lW,kQ,ld,PL,ak];go_upto_region 1 with fail;rw[HW2,HQ0,HR1];obtain⟨m0,⟨c0,c1,c2,c3⟩,c4,c5,c6⟩:=II HB0 (.head _) On;go_wp2_with fail;refine(ZB _).mono ?_;rintro e w1 ⟨rfl,hu1⟩;have HB1:=I (HB0.up hu1);clear hu1 HB0 m0 c0 c1 c2 c3 c4 c5 c6 ZB;obtain⟨m0,⟨c0,c1,c2,c3⟩,c4,c5,c6⟩:=II HB1 (.head _) On;go_wp2_with fail;refine(nk _).mono ?_;rintro e w2 ⟨rfl,hu2⟩;have HB2:=I ((HB1.up hu2).alloc #[O a] 3);clear hu2 HB1 m0 c0 c1 c2 c3 c4 c5 c6 nk;obtain⟨ab,hab⟩:=gX w2.heap.size;obtain⟨w3,hw3⟩:=gX (w2.alloc (Y #[O a] 3));rw[hab,hw3]at HB2;obtain⟨m0,⟨c0,c1,c2,c3⟩,c4,c5,c6⟩:=II HB2 On P4;go_wp2_with fail;refine(Sc _).mono ?_;rintro e w4 ⟨rfl,hw4⟩;rw[hw4];clear hw4;have HB3:=I (HB2.alloc #[q] 3);clear hab hw3 m0 c0 c1 c2 c3 c4 c5 c6 HB2;obtain⟨qb,UV⟩:=gX w3.heap.size;obtain⟨w5,V7⟩:=gX (w3.alloc (Y #[q] 3));rw[UV,V7]at HB3;have HQB:=I UV;have zR:=I V7;clear UV V7;go_upto_region 7 with fail;rw[zR,HQB];clear HQB zR
 go_cut[10]from 15 to 40 (λp wx=> ∃(xb:tyN) (x:tyI) (s':TS),p=pT xb/\Hid (Bx W g B ((xb,#[O x],3)::[(qb,#[q],3),(ab,#[O a],3),(r1,#[k,b,lo,n,wr,rd,top],130),(q0,#[pT g],164)]) wx s')/\Hid (((MU ((rem q a (0)).map λc=>A8 b q c a) x λx=>De x ((rem q a 0).map λc=>A8 b q a c) (.ret (B4 x top))).sub (MH b lo)).BH s'=R))
 case first=>
  have IM:=I (HB3.up (AV _).drew);refine dB [] (mJ g B W R) (λtmps ch W' ⟨s',q1,q2,q3,q4⟩=>AP.none q4 ⟨DJ Ending.panicked q1,q2,q3⟩) ?_;refine Br (S:=λw'=>(((V w' q0 0 (pT g)/\V w' ab 0 (O a))/\V w' qb 0 q)/\Ji r1 k b lo n wr rd top w')) Ay (BN IM P4 KQ On (.head _)) (λhH0=>?_);refine tk 0 hH0 ?_
  try simp only[pS]
  refine tk 1 hH0 ?_
  try simp only[pS]
  refine tk 2 hH0 ?_
  try simp only[pS]
  generalize w5.drew=w6 at*;refine Dn (rs:=[3,5]) SU Az ?_;refine BU rfl (λK hK=>?_) (BU rfl (λK hK=>?_) (Dp))
  .go_simp;refine(uT _).mono ?_;rintro e w11 ⟨rfl,Yx⟩;have PS:=I (IM.up Yx);clear Yx;refine bk hK (BN PS P4 KQ On (.head _)) λhH11=>?_
   refine Dn (rs:=[4,5]) SU Az ?_;refine BU rfl (λK hK=>?_) (BU rfl (λK hK=>?_) (Dp))
   .go_simp;refine(Aw (uc a (by have:=HQ.out;omega) _ _ PS.tape) HE).mono ?_;rintro e w12 (⟨s12,rfl,H12,J12,pA⟩|⟨x,s12,rfl,H12,J12,pA⟩)
    .dsimp only;clear hK K;exact⟨rfl,s12,rfl,H12,PS.tk.trans J12.out,pA.out⟩
    unfold encI;have ACR:=I (PS.call J12.out H12);refine bk hK (BN ACR P4 KQ On (.head _)) λhH12=>?_
    refine ry 5 (λK hK=>?_);go_simp;have Vu:=I (ACR.alloc #[()] 3);obtain⟨xb,hxb⟩:=gX w12.heap.size;obtain⟨w13,xf⟩:=gX (w12.alloc (Y #[()] 3));rw[hxb,xf]at Vu;rw[hxb,xf];clear hxb xf;refine bk hK (BN Vu KQ LY P4 On) λhH13=>?_
    refine ry 6 (λK hK=>?_);have y0:=Vu.cell (.head _) 0;have yf:=Vu.fE (.head _) 0;simp only[Kz,Gc]at y0;go_simp;clear y0 yf;have jD:=I (Vu.put (O x));refine bk hK (BN jD KQ LY P4 On) λhH14=>?_
    refine dz ?_
    try simp only[pS,Gi,Gg,GX]
    go_wp2
    go_meet;exact⟨xb,x,s12,rfl,jD,pA⟩
   .go_simp;have Vv:=I (PS.alloc #[()] 3);obtain⟨xb,hxb⟩:=gX w11.heap.size;obtain⟨w15,xg⟩:=gX (w11.alloc (Y #[()] 3));rw[hxb,xg]at Vv;rw[hxb,xg];clear hxb xg;refine bk hK (BN Vv KQ LY P4 On) λhH15=>?_
    refine ry 4 (λK hK=>?_);go_simp;refine(Aw (uc a (by have:=HQ.out;omega) _ _ Vv.tape) HE).mono ?_;rintro e w16 (⟨s16,rfl,H16,J16,E16⟩|⟨x,s16,rfl,H16,J16,E16⟩)
    .dsimp only;clear hK K;exact⟨rfl,s16,rfl,H16,Vv.tk.trans J16.out,E16.out⟩
    unfold encI;have bN:=I (Vv.call J16.out H16);refine bk hK (BN bN KQ LY P4 On) λhH16=>?_
    refine ry 6 (λK hK=>?_);have y0:=bN.cell (.head _) 0;have yf:=bN.fE (.head _) 0;simp only[Kz,Gc]at y0;go_simp;clear y0 yf;have ACS:=I (bN.put (O x));refine bk hK (BN ACS KQ LY P4 On) λhH17=>?_
    refine dz ?_
    try simp only[pS,Gi,Gg,GX]
    go_wp2
    go_meet;exact⟨xb,x,s16,rfl,ACS,E16⟩
  .go_simp;have xh:=I (IM.alloc #[()] 3);obtain⟨xb,hxb⟩:=gX w6.heap.size;obtain⟨w18,xi⟩:=gX (w6.alloc (Y #[()] 3));rw[hxb,xi]at xh;rw[hxb,xi];clear hxb xi;refine bk hK (BN xh KQ LY P4 On) λhH18=>?_
   refine ry 3 (λK hK=>?_);go_simp;refine(uT _).mono ?_;rintro e w19 ⟨rfl,ACT⟩;have sM:=I (xh.up ACT);clear ACT;refine bk hK (BN sM KQ LY P4 On) λhH19=>?_
   refine ry 4 (λK hK=>?_);go_simp;refine(Aw (uc a (by have:=HQ.out;omega) _ _ sM.tape) HE).mono ?_;rintro e w20 (⟨s20,rfl,nW,uX,uY⟩|⟨x,s20,rfl,nW,uX,uY⟩)
   .dsimp only;clear hK K;exact⟨rfl,s20,rfl,nW,sM.tk.trans uX.out,uY.out⟩
   unfold encI;have sO:=I (sM.call uX.out nW);refine bk hK (BN sO KQ LY P4 On) λhH20=>?_
   refine ry 6 (λK hK=>?_);have y0:=sO.cell (.head _) 0;have yf:=sO.fE (.head _) 0;simp only[Kz,Gc]at y0;go_simp;clear y0 yf;have ACU:=I (sO.put (O x));refine bk hK (BN ACU KQ LY P4 On) λhH21=>?_
   refine dz ?_
   try simp only[pS,Gi,Gg,GX]
   go_wp2
   go_meet;exact⟨xb,x,s20,rfl,ACU,uY⟩
 case rest=>
  obtain⟨xb,x,s5,rfl,FA,E5⟩:=hcut;obtain⟨⟨⟨m0,a0⟩,k0⟩,⟨c0,c1,c2,c3⟩,c4,c5,c6⟩:=BN FA KQ LY P4 On;go_wp2_with fail;refine(Ou _ _ _).mono ?_;rintro e w31 ⟨rfl,ACV⟩;have Je:=I (((FA.alloc #[q] 3).alloc #[O a] 3).perm (List.perm_middle (l₁:=[_,_])));obtain⟨kb,hkb⟩:=gX wc.heap.size;rw[Cy,hkb,<-ACV]at Je;rw[hkb];clear hkb ACV FA m0 a0 k0 c0 c1 c2 c3 c4 c5 c6;go_wp2_with fail;have HZ:=I (show W.heap.size<=w31.heap.size from Je.tk.size)
  refine Qx (k:=q) (gf:=303) (lb:= #[.pointer (some (aD kb 0)),.pointer (some (aD (kb+1) 0))]) Ay Ay Ay rfl (enters_of Tryz.func303 Ay rfl)
   (λi W'=> ∃x s,Hid (Bx W g B ((xb,#[O x],3)::(kb+1,#[O a],3)::(kb,#[q],3)::[(qb,#[q],3),(ab,#[O a],3),(r1,#[k,b,lo,n,wr,rd,top],130),(q0,#[pT g],164)]) W' s)/\Hid (((MU ((rem q a (i)).map λc=>A8 b q c a) x λx=>De x ((rem q a 0).map λc=>A8 b q a c) (.ret (B4 x top))).sub (MH b lo)).BH s=R))
   (mJ g B W R)
   (λi X AG row ⟨x,s,hb,hr⟩ hg hrow=>⟨x,s,I (hb.out.grow hg λr e=>⟨DB HZ (hrow r e).1,(hrow r e).2⟩),hr⟩) (⟨x,s5,Je,E5⟩) (λi=>(i:tyI)≠(a:tyI))
   (λl AC Jp X hJ hs hY h0=>Oc l kb (kb+1) q a (by have:=HQ.out;omega) AC Jp (λi W' hj=>by
    obtain⟨x,s,hb,_⟩:=hJ i W' hj
    exact⟨hb.out.cell P4 0,hb.out.cell On 0⟩) hs hY X h0)
   (λi W' ⟨x,s,hb,hr⟩ hw=>⟨x,s,hb,by rw[Xa i J]at hr;exact hr⟩) 11 ?hassignkb ?hbodykb ?hdonekb ?hpankb
  case hassignkb=>exact λi W' K hK=> .inl hK
  case hbodykb=>
   rintro i W' hi hw ⟨x,s8,hb,hr⟩ _;have HN:=I (show i≠a from J);have HI:=I hi
   have HE8:=I (KV (If (FQ q i a) rfl) (show((MU (A8 b q i a::(rem q a (i+1)).map λc=>A8 b q c a) x λx=>De x ((rem q a 0).map λc=>A8 b q a c) (.ret (B4 x top))).sub (MH b lo)).BH s8=R from by
    have:=hr.out;rw[WG hi HN.out]at this
    exact this))
   have HT:=I hb.out.tape.1;have K8:=I (TK.Bp (g:=g) (B:=B) (AV W').drew);have jX:=I (hb.out.up (AV W').drew);refine vS (S:=λw'=>(((V w' q0 0 (pT g)/\V w' ab 0 (O a))/\V w' qb 0 q)/\Ji r1 k b lo n wr rd top w')) _ _ _ _ ?_;have hH0:=BN jX Sw Ss LY KQ;clear hb hr hi hw
   try simp only[pS]
   refine tk 1 hH0 ?_
   try simp only[pS]
   refine tk 2 hH0 ?_
   try simp only[pS]
   refine tk 3 hH0 ?_
   try simp only[pS]
   refine tk 4 hH0 ?_
   try simp only[pS]
   refine tk 5 hH0 ?_
   try simp only[pS]
   refine Dn (rs:=[0,6]) SU Az ?_;refine BU rfl (λK hK=>?_) (BU rfl (λK hK=>?_) (Dp))
   .have y0:=jX.cell (.head _) 0;simp only[Kz,Gc]at y0;go_simp;clear y0;refine bk hK (BN jX Sw Ss LY KQ) λhH22=>?_
    refine ry 6 (λK hK=>?_);go_simp;refine(bM i a HI HQ.2 (Cz HN) _).mono ?_;rintro e w23 ⟨rfl,xj⟩;have sP:=I (jX.up xj);have xW:=I (K8.out.trans (TK.Bp xj));clear xj;refine bk hK (BN sP Sw Ss LY KQ) λhH23=>?_
    refine ry 7 (λK hK=>?_);go_simp;refine(Aw (uc (FQ q i a) (mz i a HI HQ.2) _ _ sP.tape) HE8).mono ?_;rintro e w24 (⟨s24,rfl,H24,J24,E24⟩|⟨y,s24,rfl,H24,J24,E24⟩)
    .dsimp only;clear hK K;exact⟨rfl,(xW.out.trans J24.out).keeps HT _,s24,rfl,H24,sP.tk.trans J24.out,E24.out⟩
    unfold encI;have nu:=I (sP.call J24.out H24);have K24:=I (xW.out.trans J24.out);refine bk hK (BN nu Sw Ss LY KQ) λhH24=>?_
    have hHz:=BN nu Sw Ss LY KQ;refine tk 8 hHz ?_
    try simp only[pS]
    refine ry 9 (λK hK=>?_);have y0:=nu.cell (.head _) 0;have yf:=nu.fE (.head _) 0;simp only[Kz,Gc]at y0;go_simp;clear y0 yf;obtain⟨z,hz⟩:=gX (if x<y then y else x);rw[hz];have hzm:z=max x y:=by rw[<-hz];split<;>omega
    have ACZ:=I (nu.put (O z));have K25:=I (KeepsFrom.trans (K24.out.keeps HT w31.heap.size) ((KeepsOthers.setCell _ ⟨xb,0,none⟩ (O z)).from _));refine bk hK (BN ACZ Sw Ss LY KQ) λhH25=>?_
    refine dz ?_;exact⟨K25.out,z,s24,ACZ,by rw[hzm];exact E24⟩
   .go_simp;refine(bM i a HI HQ.2 (Cz HN) _).mono ?_;rintro e w26 ⟨rfl,xl⟩;have Vw:=I (jX.up xl);have xY:=I (K8.out.trans (TK.Bp xl));clear xl;refine bk hK (BN Vw Sw Ss LY KQ) λhH26=>?_
    refine Dn (rs:=[0,7]) SU Az ?_;refine BU rfl (λK hK=>?_) (BU rfl (λK hK=>?_) (Dp))
    .have y0:=Vw.cell (.head _) 0;simp only[Kz,Gc]at y0;go_simp;clear y0;refine bk hK (BN Vw Sw Ss LY KQ) λhH27=>?_
     refine ry 7 (λK hK=>?_);go_simp;refine(Aw (uc (FQ q i a) (mz i a HI HQ.2) _ _ Vw.tape) HE8).mono ?_;rintro e w28 (⟨s28,rfl,H28,J28,E28⟩|⟨y,s28,rfl,H28,J28,E28⟩)
     .dsimp only;clear hK K;exact⟨rfl,(xY.out.trans J28.out).keeps HT _,s28,rfl,H28,Vw.tk.trans J28.out,E28.out⟩
     unfold encI;have nv:=I (Vw.call J28.out H28);have K28:=I (xY.out.trans J28.out);refine bk hK (BN nv Sw Ss LY KQ) λhH28=>?_
     have hHz:=BN nv Sw Ss LY KQ;refine tk 8 hHz ?_
     try simp only[pS]
     refine ry 9 (λK hK=>?_);have y0:=nv.cell (.head _) 0;have yf:=nv.fE (.head _) 0;simp only[Kz,Gc]at y0;go_simp;clear y0 yf;obtain⟨z,hz⟩:=gX (if x<y then y else x);rw[hz];have hzm:z=max x y:=by rw[<-hz];split<;>omega
     have ACb:=I (nv.put (O z));have K29:=I (KeepsFrom.trans (K28.out.keeps HT w31.heap.size) ((KeepsOthers.setCell _ ⟨xb,0,none⟩ (O z)).from _));refine bk hK (BN ACb Sw Ss LY KQ) λhH29=>?_
     refine dz ?_;exact⟨K29.out,z,s28,ACb,by rw[hzm];exact E28⟩
    .go_simp;refine(Aw (uc (FQ q i a) (mz i a HI HQ.2) _ _ Vw.tape) HE8).mono ?_;rintro e w30 (⟨s30,rfl,H30,J30,E30⟩|⟨y,s30,rfl,H30,J30,E30⟩)
     .dsimp only;clear hK K;exact⟨rfl,(xY.out.trans J30.out).keeps HT _,s30,rfl,H30,Vw.tk.trans J30.out,E30.out⟩
     unfold encI;have bO:=I (Vw.call J30.out H30);have K30:=I (xY.out.trans J30.out);refine bk hK (BN bO Sw Ss LY KQ) λhH30=>?_
     refine ry 0 (λK hK=>?_);have y0:=bO.cell (.head _) 0;simp only[Kz,Gc]at y0;go_simp;clear y0;refine bk hK (BN bO Sw Ss LY KQ) λhH31=>?_
     have hHz:=BN bO Sw Ss LY KQ;refine tk 8 hHz ?_
     try simp only[pS]
     refine ry 9 (λK hK=>?_);have y0:=bO.cell (.head _) 0;have yf:=bO.fE (.head _) 0;simp only[Kz,Gc]at y0;go_simp;clear y0 yf;obtain⟨z,hz⟩:=gX (if x<y then y else x);rw[hz];have hzm:z=max x y:=by rw[<-hz];split<;>omega
     have ACd:=I (bO.put (O z));have K32:=I (KeepsFrom.trans (K30.out.keeps HT w31.heap.size) ((KeepsOthers.setCell _ ⟨xb,0,none⟩ (O z)).from _));refine bk hK (BN ACd Sw Ss LY KQ) λhH32=>?_
     refine dz ?_;exact⟨K32.out,z,s30,ACd,by rw[hzm];exact E30⟩
  case hpankb=>
   rintro D ch W' hD ⟨s4,rfl,h1,h2,h3⟩ jC;refine⟨Az,.inl ⟨_,_,rfl,run_takeDeferred jC,?_⟩⟩;exact AP.none h3 ⟨rfl,h1.off (B5 Je.gs (DB HZ hD)) _ jC rfl,h2.off Je.gs (DB HZ hD) _⟩
  case hdonekb=>
   rintro D W' hD ⟨x,s9,hb,hr⟩ jC;have HD:=I (DB HZ hD);have HDF:=I jC
   have E9:=I (show((De x ((rem q a (0)).map λc=>A8 b q a c) (.ret (B4 x top))).sub (MH b lo)).BH s9=R from by
    have:=hr.out;rw[cz]at this
    exact this)
   have dy:=I (hb.out.sub (.cons_cons _ (.cons _ (.cons _ (.refl _)))));clear hD jC hr hb E5 Je;obtain⟨⟨⟨m0,a0⟩,k0⟩,⟨c0,c1,c2,c3⟩,c4,c5,c6⟩:=BN dy KQ LY P4 On;go_wp2_with fail;refine(Ou _ _ _).mono ?_;rintro e w41 ⟨rfl,xm⟩;have PS:=I (((dy.alloc #[q] 3).alloc #[O a] 3).perm (List.perm_middle (l₁:=[_,_])))
   have HDX:=I (show w41.heap[D]?=some (.deferred (some []))from by
    rw[xm]
    exact((((AV W').alloc _).alloc _).block D (gE HDF).1).trans HDF)
   obtain⟨kc,hkc⟩:=gX W'.heap.size;rw[Cy,hkc,<-xm]at PS;rw[hkc];clear hkc xm dy HDF m0 a0 k0 c0 c1 c2 c3 c4 c5 c6;go_wp2_with fail;have HZ2:=I (show W.heap.size<=w41.heap.size from PS.tk.size)
   refine Qx (k:=q) (gf:=303) (lb:= #[.pointer (some (aD kc 0)),.pointer (some (aD (kc+1) 0))]) Ay Ay Ay rfl (enters_of Tryz.func303 Ay rfl)
    (λi W'=> ∃s,Hid (Bx W g B ((xb,#[O x],3)::(kc+1,#[O a],3)::(kc,#[q],3)::[(qb,#[q],3),(ab,#[O a],3),(r1,#[k,b,lo,n,wr,rd,top],130),(q0,#[pT g],164)]) W' s/\W'.heap[D]?=some (.deferred (some [])))/\Hid (((De x ((rem q a (i)).map λc=>A8 b q a c) (.ret (B4 x top))).sub (MH b lo)).BH s=R))
    (λch W'=>mJ g B W R ch W'/\W'.heap[D]?=some (.deferred (some [])))
    (λi X AG row ⟨s,hb,hr⟩ hg hrow=>⟨s,I ⟨hb.out.1.grow hg λr e=>⟨DB HZ2 (hrow r e).1,(hrow r e).2⟩,(hg.block D (gE hb.out.2).1 λe=>by have h1:=(hrow D e.symm).1;have h2:=(gE HDX).1;omega).trans hb.out.2⟩,hr⟩) (⟨s9,I ⟨PS,HDX⟩,E9⟩) (λi=>(i:tyI)≠(a:tyI))
    (λl AC Jp X hJ hs hY h0=>Oc l kc (kc+1) q a (by have:=HQ.out;omega) AC Jp (λi W' hj=>by
     obtain⟨s,hb,_⟩:=hJ i W' hj
     exact⟨hb.out.1.cell P4 0,hb.out.1.cell On 0⟩) hs hY X h0)
    (λi W' ⟨s,hb,hr⟩ hw=>⟨s,hb,by rw[Xa i J]at hr;exact hr⟩) 12 ?hassignkc ?hbodykc ?hdonekc ?hpankc
   case hassignkc=>exact λi W' K hK=> .inl hK
   case hbodykc=>
    rintro i W' hi hw ⟨s10,hb,hr⟩ _;have HN:=I (show i≠a from J);have HI:=I hi
    have AGb:=I (KV (If (FQ q a i) rfl) (show((De x (A8 b q a i::(rem q a (i+1)).map λc=>A8 b q a c) (.ret (B4 x top))).sub (MH b lo)).BH s10=R from by
     have:=hr.out;rw[WG hi HN.out]at this
     exact this))
    have HT:=I hb.out.1.tape.1;have HD0:=I hb.out.2;have K10:=I (TK.Bp (g:=g) (B:=B) (AV W').drew);have xo:=I (hb.out.1.up (AV W').drew);refine vS (S:=λw'=>V w' xb 0 (O x)/\(((V w' q0 0 (pT g)/\V w' ab 0 (O a))/\V w' qb 0 q)/\Ji r1 k b lo n wr rd top w')) _ _ _ _ ?_;have hH0:=And.intro (xo.cell (.head _) 0) (BN xo Sw Ss LY KQ);clear hb hr hi hw
    try simp only[pS]
    refine tk 0 hH0 ?_
    try simp only[pS]
    refine tk 1 hH0 ?_
    try simp only[pS]
    refine tk 2 hH0 ?_
    try simp only[pS]
    refine tk 3 hH0 ?_
    try simp only[pS]
    refine tk 4 hH0 ?_
    try simp only[pS]
    refine tk 6 hH0 ?_
    try simp only[pS]
    refine ry 5 (λK hK=>?_);go_simp;refine(bM a i HQ.2 HI HN _).mono ?_;rintro e w33 ⟨rfl,xp⟩;have ny:=I (xo.up xp);have K33:=I (K10.out.trans (TK.Bp xp));clear xp;refine bk hK (And.intro (ny.cell (.head _) 0) (BN ny Sw Ss LY KQ)) λhH33=>?_
    refine ry 7 (λK hK=>?_);go_simp;refine(Aw (dh (FQ q a i) (mz a i HQ.2 HI) x _ _ ny.tape) AGb).mono ?_;rintro e w34 (⟨s34,rfl,H34,zS,E34⟩|⟨y,s34,rfl,H34,zS,E34⟩)
    .dsimp only;clear hK K;exact⟨rfl,(K33.out.trans zS.out).keeps HT _,⟨s34,rfl,H34,ny.tk.trans zS.out,E34.out⟩,(K33.out.trans zS.out).Qb HT HD0 rfl⟩
    unfold Kf;have xq:=I (ny.call zS.out H34);have uU:=I (K33.out.trans zS.out);refine bk hK (And.intro (xq.cell (.head _) 0) (BN xq Sw Ss LY KQ)) λhH34=>?_
    refine dz ?_;exact⟨uU.out.keeps HT _,s34,I ⟨xq,uU.out.Qb HT HD0 rfl⟩,E34⟩
   case hpankc=>
    rintro D2 ch W' hD2 ⟨⟨s4,rfl,h1,h2,h3⟩,jC⟩ nz;have hl2:=DB HZ2 hD2;have hne:D≠D2:=λe=>by have:=(gE HDX.out).1;omega
    have h4:=h1.off (B5 PS.gs hl2) (.deferred none) nz rfl;have ACe:=(World.putObj_heap_other (w:=W') (r:=D2) (o:= .deferred none) hne).trans jC;refine⟨Az,.inl ⟨_,_,rfl,run_takeDeferred nz,⟨Az,.inl ⟨_,_,rfl,run_takeDeferred ACe,?_⟩⟩⟩⟩;exact AP.none h3 ⟨rfl,h4.off (B5 PS.gs HD) _ ACe rfl,(h2.off PS.gs hl2 _).off PS.gs HD _⟩
   case hdonekc=>
    rintro D2 W' hD2 ⟨s12,hb,hr⟩ nz;have HD2:=I (DB HZ2 hD2);have ACf:=I nz;have ACg:=I hb.out.2;have Vu:=I hb.out.1
    have zL:=I (show(Op.ret (B4 x top):Op Int).BH s12=R from by
     have:=hr.out;rw[cz]at this
     exact this)
    have uJ:=I (show D≠D2 from λe=>by have:=(gE HDX.out).1;omega);clear hD2 nz hb hr;obtain⟨⟨⟨m0,a0⟩,k0⟩,⟨c0,c1,c2,c3⟩,c4,c5,c6⟩:=BN Vu Sw Ss LY KQ;have x0:=Vu.cell (.head _) 0;simp only[Kz,Gc]at x0;go_upto_region 14 with fail;have jD:=I (Vu.up (AV W').drew);refine dB [] (λ_ _=>False) (λ_ _ _ h=>h.elim) ?_;clear x0 m0 a0 k0 c0 c1 c2 c3 c4 c5 c6;refine Br (S:=λw'=>V w' xb 0 (O x)/\(((V w' q0 0 (pT g)/\V w' ab 0 (O a))/\V w' qb 0 q)/\Ji r1 k b lo n wr rd top w')) Ay (And.intro (jD.cell (.head _) 0) (BN jD Sw Ss LY KQ)) (λhH0=>?_);refine tk 0 hH0 ?_
    try simp only[pS]
    refine tk 1 hH0 ?_
    try simp only[pS]
    refine tk 2 hH0 ?_
    try simp only[pS]
    refine ry 3 (λK hK=>?_);go_simp;refine(M2 _).mono ?_;rintro e _ ⟨rfl,rfl⟩;refine bk hK hH0 λhH1=>?_
    refine ry 4 (λK hK=>?_);go_simp;refine(RI x top _).mono ?_;rintro e w50 ⟨rfl,sQ⟩;have Vv:=I (jD.up sQ);have HG2:=I ((sQ.block D2 (gE ACf).1).trans ACf);have jE:=I ((sQ.block D (gE ACg).1).trans ACg);clear sQ;refine bk hK (And.intro (Vv.cell (.head _) 0) (BN Vv Sw Ss LY KQ)) λhH2=>?_
    refine tk 5 hH2 ?_
    try simp only[pS]
    refine tk 6 hH2 ?_
    try simp only[pS]
    refine tk 7 hH2 ?_
    try simp only[pS]
    refine tk 8 hH2 ?_
    try simp only[pS]
    refine tk 9 hH2 ?_
    try simp only[pS]
    refine dz ?_
    try simp only[pS,Gi,Gg,GX]
    have HG3:=I ((World.putObj_heap_other (w:=w50) (r:=D2) (o:= .deferred none) uJ).trans jE);have bN:=I ((Vv.grow (grownBy_putObj' w50 D2 (.deferred none)) (λr e=>by cases e;exact⟨HD2,_,HG2,rfl⟩)).grow (grownBy_putObj' _ D (.deferred none)) (λr e=>by cases e;exact⟨HD,_,HG3,rfl⟩));go_wp2_with fail;refine⟨Az,.inl ⟨_,_,rfl,run_takeDeferred HG2,⟨Az,.inl ⟨_,_,rfl,run_takeDeferred HG3,?_⟩⟩⟩⟩;exact⟨_,results_tmp rfl _ _ _,AP.some zL.out.symm ⟨rfl,bN.tape,bN.tk⟩⟩
end
end Go.Proofs.YtpodgcpkccpnfaaGreat
