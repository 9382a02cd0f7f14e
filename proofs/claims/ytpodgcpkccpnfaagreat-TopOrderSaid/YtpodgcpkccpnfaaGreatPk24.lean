import Derived.Test.YtpodgcpkccpnfaaGreatPk23
set_option linter.unusedVariables false
set_option linter.unusedSimpArgs false
set_option maxRecDepth 20000
set_option maxHeartbeats 40000000
namespace Go.Proofs.YtpodgcpkccpnfaaGreat
variable{a:AD}{b lo top:Int}{j n t:Nat}
section
open Go.RowKit
structure Zt where
 b:Nat
 de:Nat
 e:Nat
 Ik:Bool
 x:Nat->Int
 rb:Nat->Nat
 Dr:Int×Int
 own:Nat
structure TY (b:tyI)(n t:tyN)(top:tyI)(N at' c0:tyN)(ACm:tyI)(W:List (Ch×List Ch))(ds:List Zt):Prop where
 at':∀(i:tyN) (x:Zt),ds[i]?=some x->∃u K,W[i]?=some (u,K)/\x.b=u.fb/\x.e=u.e N/\at'<u.fb/\u.fb<x.de/\x.de<=u.e N/\x.de<N/\(x.Ik=true↔u.a.1≠1)/\(∃a e y,Item.acc a u.fb e y∈u.its/\e<=x.de)
 Z6:∀(i:tyN) (x:Zt),ds[i]?=some x->∀j,j<n->j≠t->∃e,e<=x.de/\x.b<=x.rb j/\B6 N (part (AO b n j) W) (x.rb j) e (x.x j)
 scan:∀(i:tyN) (x:Zt),ds[i]?=some x->x.Dr=((List.range n).map λj=>DO top (x.x j)).foldl Ct (0,0)
 mine:∀(i:tyN) (x:Zt),ds[i]?=some x->c0<=x.own/\(x.own=c0->x.x t=ACm)/\∀m,x.own=c0+m+1->∃u',(part (AO b n t) W)[m]?=some u'/\x.x t=u'.a.2.2
 cnt:∀(i i':tyN) (x x':Zt),i<i'->ds[i]?=some x->ds[i']?=some x'->x.own<=x'.own/\(x.Ik=true->x.own<x'.own)
 put:∀(κ:tyN) (u':Ch),(part (AO b n t) W)[κ]?=some u'->∃(i:tyN) (x:Zt) (u:Ch) (K:List Ch),ds[i]?=some x/\W[i]?=some (u,K)/\x.Ik=true/\x.own=c0+κ/\u'.a=(2,AO b n t,ES x.Dr.1 u.a.2.2 top)/\x.de<u'.fb
 CY:∀(i:tyN) (x:Zt),ds[i]?=some x->x.Ik=true->x.e<N->∃(κ:tyN) (u':Ch),x.own=c0+κ/\(part (AO b n t) W)[κ]?=some u'/\u'.e N<=x.e
 fin:∀(i:tyN) (u:Ch) (K:List Ch),W[i]?=some (u,K)->∀y,u.res=some y->u.e N<N->∃x,ds[i]?=some x/\(u.a.1=1->y=x.Dr.2)
 len:(part (AO b n t) W).length<=W.length
 row:∀(i i':tyN) (x x':Zt),i<i'->ds[i]?=some x->ds[i']?=some x'->x.e<x'.b
theorem Nq(ht:t<n)(hlo:0<=lo/\BD lo n n<=32768):0<=BD lo n t+1/\BD lo n t+1<32768/\BD lo n t+(2+18*((EC n:tyN):tyI))<=BD lo n (t+1)/\lo<=BD lo n t:=by
 have h1:(t+1)*(2+18*EC n)<=n*(2+18*EC n):=MO _ ht;have h2:(t+1)*(2+18*EC n)=t*(2+18*EC n)+(2+18*EC n):=by rw[Nw,MZ]
 unfold BD at*;rw[h2]at h1;rw[h2];omega
theorem Du{j':tyN}(h:j<j'):BD lo n j+(2+18*((EC n:tyN):tyI))<=BD lo n j':=by
 have h1:(j+1)*(2+18*EC n)<=j'*(2+18*EC n):=MO _ h;have h2:(j+1)*(2+18*EC n)=j*(2+18*EC n)+(2+18*EC n):=by rw[Nw,MZ]
 unfold BD;omega
theorem Ig{j':tyN}(h:j<j'):AO b n j+16*((EC n:tyN):tyI)<=AO b n j':=by
 have h1:(j+1)*EC n<=j'*EC n:=MO _ h;have h2:(j+1)*EC n=j*EC n+EC n:=by rw[Nw,MZ]
 unfold AO;omega
theorem fQ(hn:2<=n)(ht:t<n)(hj:j<n)(hne:j≠t)(x:tyI):(Q5 b lo n top t (1,AO b n j,x)).keeps (BD lo n t+1):=by
 rw[LJ hn rfl];refine(OR hn ht hj ?_ ⟨λe=>absurd e.symm hne,λh=>absurd rfl h⟩).1;rcases CR t j with g|g
 .have:=Du (lo:=lo) (n:=n) g;omega
 .have:=Du (lo:=lo) (n:=n) (show j<t by omega);omega
theorem VI{b lo:tyI}{n t:tyN}(hn:2<=n)(ht:t<n){top:tyI}(hloc:0<=BD lo n t+1/\BD lo n t+1<32768){F:AD->Op Int}{RG:Int->Prop}(hrg:RG (BD lo n t+1)){N:tyN}:∀(W:List (Ch×List Ch)) {at' c0:tyN} {σ:Int->Int},Bk F RG N at' σ (W.map Prod.fst)->(∀u,u∈W.map Prod.fst->Fu (F u.a))->
  (∀u K,(u,K)∈W->∃o' l',DE (Q5 b lo n top t) (gg b lo n top t u.a) u.l u.lo u.its K o' l'/\∀v,u.res=some v->o'= .ret v/\l'=u.l')->(∀u K,(u,K)∈W->(gg b lo n top t u.a).all λa=>Fu (Q5 b lo n top t a))->
  ∃ds,TY b n t top N at' c0 (σ (BD lo n t+1)) W ds
 |[],at',c0,σ,h,hb,hd,hbz=>⟨[],⟨λi x h=>by simp at h,λi x h=>by simp at h,λi x h=>by simp at h,λi x h=>by simp at h,λi i' x x' _ h=>by simp at h,fun κ u' h=>by simp[part]at h,λi x h=>by simp at h,λi u K h=>by simp at h,A9 _,λi i' x x' _ h=>by simp at h⟩⟩
 |(u,K)::W,at',c0,σ,h,hb,hd,hbz=>by
  have S6:=Bk.busy h hb;obtain⟨g1,g2,g3,g4,⟨o2,g5,g5'⟩,g6,g7⟩:=h;dsimp only at g1 g2 g3 g4 g5 g5' g6 g7;obtain⟨o',l',d,hdone⟩:=hd u K (.head _);have OF:=d.within g2;have n7:=d.rC (hbz u K (.head _)) g2;have hl0:Ac u.l (BD lo n t+1)=σ (BD lo n t+1):=g4 _ hrg
  have hW0:u.res=none->W=[]:=λe=>by
   have:=g6 e;cases W with
   |nil=>rfl
   |cons a b=>cases this
  have stop:(∀w,w∈K->w.a.2.1≠AO b n t)->(∀y,u.res=some y->N<=u.e N)->(W≠[]->N<=AM u.lo u.its)->∃ds,TY b n t top N at' c0 (σ (BD lo n t+1)) ((u,K)::W) ds:=λc1 c2 c3=>by
   obtain⟨ds,hr⟩:=VI hn ht hloc hrg W (c0:=c0) g7 (λv hv=>hb v (.tail _ hv)) (λu K hm=>hd u K (.tail _ hm)) λu K hm=>hbz u K (.tail _ hm)
   have hds:ds=[]:=by
    cases ds with
    |nil=>rfl
    |cons x ds=>
     exfalso;obtain⟨v,K',q1,q2,q3,q4,q5,q6,q7,_⟩:=hr.at' 0 x rfl;have:=c3 (by intro e;rw[e]at q1;simp at q1);omega
   subst hds
   have hno:part (AO b n t) ((u,K)::W)=[]:=by
    rw[By,Kt.2 λw hw=>by unfold D9;simp only[Fc];exact c1 w hw];cases e:part (AO b n t) W with
    |nil=>rfl
    |cons w AF=>
     obtain⟨i,x,_,_,q1,_⟩:=hr.put 0 w (by rw[e];rfl);simp at q1
   refine⟨[],⟨λi x h=>by simp at h,λi x h=>by simp at h,λi x h=>by simp at h,λi x h=>by simp at h,λi i' x x' _ h=>by simp at h,fun κ u' h=>by rw[hno]at h;simp at h,λi x h=>by simp at h,λi v K' hv y hy hlt=>?_,by rw[hno];exact DV _,λi i' x x' _ h=>by simp at h⟩⟩;cases i with
   |zero=>
    have:(u,K)=(v,K'):=by simpa using hv
    cases this
    have:=c2 y hy;omega
   |succ i=>
    obtain⟨x,q1,_⟩:=hr.fin i v K' (Cw hv) y hy hlt;simp at q1
  obtain⟨yC,hk⟩:∃yC:Int×Int->Op Int,yC=λp=>if u.a.1=1 then .ret p.2 else .ask (2,AO b n t,ES p.1 u.a.2.2 top) λ_=> .set (BD lo n t+1) (ES p.1 u.a.2.2 top) (.ret 0):=⟨_,rfl⟩
  have hT:gg b lo n top t u.a=Hr b lo n t top (List.range n) (0,0) yC:=by
   rw[hk];unfold gg AAa AAB;split
   .rfl
   .rfl
  rw[hT]at d;rcases R4 hloc (List.range n) (λj hj hne=>fQ hn ht (Dz.1 hj) hne 0) d g2 with⟨c1,hn'⟩|⟨K1,K2,L1,L2,l1,xs,e1,e2',e3,e4,e5,e6,e7⟩
  .have hres:u.res=none:=by
    cases e:u.res with
    |none=>rfl
    |some v=>exact absurd (hdone v e).1 (hn' v)
   refine stop (λw hw=>?_) (λy hy=>by rw[hres]at hy;cases hy) λhne=>absurd (hW0 hres) hne
   obtain⟨_,j,_,q1,q2⟩:=c1 w hw;rw[q2];exact λe=>q1 (Me hn e)
  obtain⟨T,hT'⟩:=gX (AM u.lo L1);rw[hT']at e6;have nf:T<=AM u.lo u.its:=by rw[e2',AY,hT'];rw[e2']at g2;have:=Seq.A7 (Seq.append.1 g2).2;rw[hT']at this;exact this
  have g2L:Seq T L2:=by rw[e2']at g2;have:=(Seq.append.1 g2).2;rw[hT']at this;exact this
  have hK1:∀w,w∈K1->w.a.2.1≠AO b n t:=λw hw=>by
   obtain⟨_,⟨j,_,q1,q2⟩,_⟩:=e4 w hw;rw[q2];exact λe=>q1 (Me hn e)
  have bL:∀w,w∈K1->w∈K:=λw hw=>by rw[e1];exact P3 _ hw
  have second:(u.a.1=1/\K2=[]/\L2=[]/\o'= .ret ((xs.map (DO top)).foldl Ct (0,0)).2/\l'=l1)\/
    (u.a.1≠1/\((K2=[]/\L2=[]/\∀y,o'≠ .ret y)\/∃w,K2=[w]/\w.a=(2,AO b n t,ES ((xs.map (DO top)).foldl Ct (0,0)).1 u.a.2.2 top)/\T<=w.lo/\((∀y,o'≠ .ret y)\/((∃y,w.res=some y)/\Ac l' (BD lo n t+1)=ES ((xs.map (DO top)).foldl Ct (0,0)).1 u.a.2.2 top)))):=by
   rw[hk]at e6;dsimp only at e6;split at e6
   .rename_i h1;obtain⟨q1,q2,q3,q4⟩:=e6.BV;exact .inl ⟨h1,q2,q1,q3,q4⟩
   .rename_i h1;refine .inr ⟨h1,?_⟩;rcases e6.Ba with⟨q1,q2,q3⟩|⟨o1,q1,_,_,_,q3⟩|⟨L3,L4,K4,l4,y,q1,q2,q3,q4⟩
    .exact .inl ⟨q2,q1,q3⟩
    .exact .inr ⟨_,q1,rfl,A9 _,.inl q3⟩
    .rcases q4.G7 with⟨r1,r2,r3⟩|r4
     .exact .inr ⟨_,by rw[q1,r2],rfl,A9 _,.inl r3⟩
     .obtain⟨r1,r2,r3,r4⟩:=r4.BV;exact .inr ⟨_,by rw[q1,r2],rfl,A9 _,.inr ⟨⟨y,rfl⟩,by rw[r4,CG _ _ _ _ hloc,AK rfl]⟩⟩
  rcases CR T N with sK|sK
  rotate_left
  .have hK2:K2=[]:=by
    cases K2 with
    |nil=>rfl
    |cons w AF=>
     exfalso;have hm:w∈K:=by rw[e1];exact LF _ (.head _)
     have:=n7 w hm;have:=(OF w hm).2.2;have:=(e6.within g2L w (.head _)).1;omega
   refine stop (λw hw=>?_) (λy hy=>?_) λ_=>J
   .rw[e1,hK2,Jc]at hw;exact hK1 w hw
   .unfold Ch.e;rw[hy];exact DB sK nf
  obtain⟨j0,hj0,AGi⟩:∃j,j<n/\j≠t:=⟨if t=0 then 1 else 0,by split<;>omega,by split<;>omega⟩
  have yD:∀j,j<n->∃x,xs[j]?=some x/\(j=t->x=σ (BD lo n t+1))/\(j≠t->∃w,w∈K1/\w.a=(1,AO b n j,0)/\w.res=some x):=λj hj=>by
   obtain⟨x,q1,q2,q3⟩:=e5 j j (by rw[Qp hj]);exact⟨x,q1,λe=>(q2 e).trans hl0,q3⟩
  have ni:∀j,∃p:Nat,j<n->j≠t->∃w,w∈K1/\w.a=(1,AO b n j,0)/\w.res=some (xs.getD j 0)/\w.fb=p:=λj=>by
   by_cases hj:j<n/\j≠t
   .obtain⟨x,q1,_,q3⟩:=yD j hj.1;obtain⟨w,r1,r2,r3⟩:=q3 hj.2;exact⟨w.fb,λ_ _=>⟨w,r1,r2,by rw[Ai q1];exact r3,rfl⟩⟩
   .exact⟨0,λh1 h2=>absurd ⟨h1,h2⟩ hj⟩
  obtain⟨rb,hrb⟩:∃rb:Nat->Nat,∀j,j<n->j≠t->∃w,w∈K1/\w.a=(1,AO b n j,0)/\w.res=some (xs.getD j 0)/\w.fb=rb j:=⟨λj=>Classical.choose (ni j),λj=>Cg (ni j)⟩;have e4T:∀w,w∈K1->AM w.lo w.its<=T:=λw hw=>by rw[<-hT'];exact(e4 w hw).2.2
  obtain⟨w0,hw0,_⟩:=hrb j0 hj0 AGi
  have hue:u.its≠[]:=by
   intro e;have:=n7 w0 (bL w0 hw0);have h2:=OF w0 (bL w0 hw0);rw[e]at h2;have:AM u.lo []=u.lo:=rfl;omega
  obtain⟨k1,k2,k3,k4⟩:=S6.1 u (.head _);obtain⟨k5,k6⟩:=k3 hue
  have hub:u.fb<T:=by
   have:=n7 w0 (bL w0 hw0);have:=e4T w0 hw0;omega
  have huT:T<=u.e N:=by
   unfold Ch.e;cases u.res with
   |none=>exact BP sK
   |some y=>exact nf
  have hxs:xs=(List.range n).map λj=>xs.getD j 0:=by
   refine List.ext_getElem? λi=>?_
   rw[BY];rcases CR i n with g|g
   .obtain⟨x,q1,_⟩:=yD i g;rw[Qp g,q1];show some x=some (xs.getD i 0);rw[Ai q1]
   .rw[VA (by rw[e3,Uq];exact g),VA (by rw[Uq];exact g)];rfl
  obtain⟨bst,ACn⟩:=gX ((xs.map (DO top)).foldl Ct (0,0));rw[ACn]at second
  have hscan:bst=((List.range n).map λj=>DO top (xs.getD j 0)).foldl Ct (0,0):=by
   rw[<-ACn]
   conv=>lhs;rw[hxs]
   rw[WY];rfl
  obtain⟨x,hx⟩:∃x:Zt,x=⟨u.fb,T,u.e N,decide (u.a.1≠1),λj=>xs.getD j 0,rb,bst,c0⟩:=⟨_,rfl⟩;have hxW:x.Ik=true↔u.a.1≠1:=by rw[hx];exact decide_eq_true_iff
  have hxt:x.x t=σ (BD lo n t+1):=by
   obtain⟨y,q1,q2,_⟩:=yD t ht;rw[hx];show xs.getD t 0=_;rw[Ai q1];exact q2 rfl
  have nj:∀W j,j<n->j≠t->∃e,e<=T/\u.fb<=rb j/\B6 N (part (AO b n j) ((u,K)::W)) (rb j) e (xs.getD j 0):=λW j hj hne=>by
   obtain⟨w,q1,q2,q3,q4⟩:=hrb j hj hne;refine⟨AM w.lo w.its,e4T w q1,by rw[<-q4];exact(n7 w (bL w q1)).1,?_⟩;rw[By];exact Hd ⟨w,Db.2 ⟨bL w q1,by unfold D9;rw[q2];simp⟩,q4,by unfold Ch.e;rw[q3],q3,by have:=e4T w q1;omega⟩
  have dw:K.filter (λw=>D9 (AO b n t) w.a)=K2.filter λw=>D9 (AO b n t) w.a:=by
   rw[e1,IV,Kt.2 λw hw=>by unfold D9;simp only[Fc];exact hK1 w hw];rfl
  have Jb:∀W,part (AO b n t) ((u,K)::W)=(K2.filter λw=>D9 (AO b n t) w.a)++part (AO b n t) W:=λW=>by
   rw[By];show K.filter _++_=_;rw[dw]
  have yE:∃a e y,Item.acc a u.fb e y∈u.its/\e<=T:=by
   have hL1:L1≠[]:=by
    intro e;have:T=u.lo:=by rw[<-hT',e];rfl
    have:=k3 hue;have:=hub;have h5:=(hb u (.head _)).places g5 hue g2;have h6:u.lo<u.fb:=h5.1;omega
   rcases(hb u (.head _)) _ _ _ _ g5 with⟨e,_⟩|⟨a,b',e,y,L',q⟩
   .exact absurd e hue
   .have e2:u.fb=b':=by unfold Ch.fb;rw[q];rfl
    refine⟨a,e,y,by rw[e2,q];exact .head _,?_⟩;rw[e2']at q;cases L1 with
    |nil=>exact absurd rfl hL1
    |cons i L1'=>
     have hi:i= .acc a b' e y:=by
      have:=DJ List.head? q;simpa using this
     rw[e2']at g2;have hs1:=(Seq.append.1 g2).1;have:=(Seq.acc hs1 (show Item.acc a b' e y∈i::L1' by rw[hi];exact .head _)).2.2;rw[hT']at this;exact this
  have build:∀(c1:tyN) (P:List Ch),part (AO b n t) ((u,K)::W)=P++part (AO b n t) W->c1=c0+P.length->(P=[]\/∃w,P=[w]/\u.a.1≠1/\w.a=(2,AO b n t,ES bst.1 u.a.2.2 top)/\T<w.fb/\(∀y,u.res=some y->w.e N<=u.e N/\Ac u.l' (BD lo n t+1)=w.a.2.2))->(u.a.1≠1->P=[]->u.res=none)->
    (∀y,u.res=some y->(P=[]->Ac u.l' (BD lo n t+1)=σ (BD lo n t+1))/\(u.a.1=1->y=bst.2))->∃ds,TY b n t top N at' c0 (σ (BD lo n t+1)) ((u,K)::W) ds:=λc1 P hP hc1 zV hPn hres=>by
   obtain⟨ds,hr⟩:=VI hn ht hloc hrg W (c0:=c1) g7 (λv hv=>hb v (.tail _ hv)) (λu K hm=>hd u K (.tail _ hm)) λu K hm=>hbz u K (.tail _ hm)
   have hnil:u.res=none->ds=[]:=λe=>by
    have:=hW0 e;subst this;cases ds with
    |nil=>rfl
    |cons y ds=>
     obtain⟨v,K',q1,_⟩:=hr.at' 0 y rfl;simp at q1
   have hsome:ds≠[]->∃y,u.res=some y:=λhne=>by
    cases e:u.res with
    |none=>exact absurd (hnil e) hne
    |some y=>exact⟨y,rfl⟩
   have n9:x.own=c0:=by rw[hx]
   refine⟨x::ds,⟨λi y hy=>?_,λi y hy j hj hne=>?_,λi y hy=>?_,λi y hy=>?_,λi i' y y' hii hy hy'=>?_,fun κ u' hu'=>?_,λi y hy hyW hlt=>?_,λi v K' hv y hy hlt=>?_,?_,λi i' y y' hii hy hy'=>?_⟩⟩
   .cases i with
    |zero=>
     have:x=y:=by simpa using hy
     subst this;exact⟨u,K,rfl,by rw[hx],by rw[hx],k5,by rw[hx];exact hub,by rw[hx];exact huT,by rw[hx];exact sK,hxW,by rw[hx];exact yE⟩
    |succ i=>
     obtain⟨v,K',q1,q2,q3,q4,q5⟩:=hr.at' i y (Cw hy);exact⟨v,K',by simpa using q1,q2,q3,J,q5⟩
   .cases i with
    |zero=>
     have:x=y:=by simpa using hy
     subst this;rw[hx];exact nj W j hj hne
    |succ i=>
     obtain⟨e,q1,q2,q3⟩:=hr.Z6 i y (Cw hy) j hj hne;exact⟨e,q1,q2,Od q3⟩
   .cases i with
    |zero=>
     have:x=y:=by simpa using hy
     subst this;rw[hx];exact hscan
    |succ i=>exact hr.scan i y (Cw hy)
   .cases i with
    |zero=>
     have:x=y:=by simpa using hy
     subst this;exact⟨Jq n9.symm,λ_=>hxt,λm hm=>J⟩
    |succ i=>
     have hy':ds[i]?=some y:=by simpa using hy
     obtain⟨q1,q2,q3⟩:=hr.mine i y hy';obtain⟨z,hz⟩:=hsome (by intro e;rw[e]at hy';simp at hy');rw[hP];rcases zV with e|⟨w,e,hu1,hwa,hwT,hwe⟩
     .subst e;rw[Rn,LB]at hc1;subst hc1;exact⟨q1,λe=>(q2 e).trans ((hres z hz).1 rfl),q3⟩
     .subst e;rw[IN]at hc1;subst hc1;refine⟨J,λe=>J,λm hm=>?_⟩;cases m with
      |zero=>exact⟨w,rfl,(q2 J).trans (hwe z hz).2⟩
      |succ m=>
       obtain⟨u',r1,r2⟩:=q3 m J;exact⟨u',by simpa using r1,r2⟩
   .obtain⟨i',rfl⟩:∃k,i'=k+1:=⟨i'-1,J⟩;have hy2:ds[i']?=some y':=by simpa using hy'
    cases i with
    |zero=>
     have:x=y:=by simpa using hy
     subst this;have h1:=(hr.mine i' y' hy2).1;refine⟨J,λhyW=>?_⟩;have hu1:=hxW.1 hyW;rcases zV with e|⟨w,e,_⟩
     .have:=hnil (hPn hu1 e);subst this;simp at hy2
     .subst e;rw[IN]at hc1;omega
    |succ i=>exact hr.cnt i i' y y' J (Cw hy) hy2
   .rw[hP]at hu';rcases zV with e|⟨w,e,hu1,hwa,hwT,hwe⟩
    .subst e;rw[Rn,LB]at hc1;subst hc1;obtain⟨i,y,v,K',r1,r2,r3,r4,r5,r6⟩:=hr.put κ u' (Cw hu');exact⟨i+1,y,v,K',by simpa using r1,by simpa using r2,r3,r4,r5,r6⟩
    .subst e;rw[IN]at hc1;cases κ with
     |zero=>
      have:w=u':=by simpa using hu'
      subst this;exact⟨0,x,u,K,rfl,rfl,hxW.2 hu1,n9,by rw[hwa,hx],by rw[hx];exact hwT⟩
     |succ κ=>
      obtain⟨i,y,v,K',r1,r2,r3,r4,r5,r6⟩:=hr.put κ u' (Cw hu');exact⟨i+1,y,v,K',by simpa using r1,by simpa using r2,r3,J,r5,r6⟩
   .rw[hP];cases i with
    |zero=>
     have:x=y:=by simpa using hy
     subst this;have hu1:=hxW.1 hyW;have hue:u.e N<N:=by rw[hx]at hlt;exact hlt
     have hz:∃z,u.res=some z:=by
      cases e:u.res with
      |none=>unfold Ch.e at hue;rw[e]at hue;exact absurd hue (EL _)
      |some z=>exact⟨z,rfl⟩
     obtain⟨z,hz⟩:=hz;rcases zV with e|⟨w,e,_,hwa,hwT,hwe⟩
     .have:=hPn hu1 e;rw[hz]at this;cases this
     .subst e;exact⟨0,w,n9,rfl,by rw[hx];exact(hwe z hz).1⟩
    |succ i=>
     obtain⟨κ,u',r1,r2,r3⟩:=hr.CY i y (Cw hy) hyW hlt;rcases zV with e|⟨w,e,_⟩
     .subst e;rw[Rn,LB]at hc1;subst hc1;exact⟨κ,u',r1,by simpa using r2,r3⟩
     .subst e;rw[IN]at hc1;exact⟨κ+1,u',J,by simpa using r2,r3⟩
   .cases i with
    |zero=>
     have:(u,K)=(v,K'):=by simpa using hv
     cases this
     exact⟨x,rfl,λh1=>by rw[hx];exact(hres y hy).2 h1⟩
    |succ i=>
     obtain⟨z,q1,q2⟩:=hr.fin i v K' (Cw hv) y hy hlt;exact⟨z,by simpa using q1,q2⟩
   .rw[hP,Gx];have:=hr.len;rcases zV with e|⟨w,e,_⟩
    .subst e;simp;omega
    .subst e;simp;omega
   .obtain⟨i',rfl⟩:∃k,i'=k+1:=⟨i'-1,J⟩;have hy2:ds[i']?=some y':=by simpa using hy'
    cases i with
    |zero=>
     have:x=y:=by simpa using hy
     subst this;obtain⟨v,K',q1,q2,q3,q4,q5⟩:=hr.at' i' y' hy2;obtain⟨z,hz⟩:=hsome (by intro e;rw[e]at hy2;simp at hy2);rw[hx,q2];show u.e N<v.fb;unfold Ch.e;rw[hz];exact q4
    |succ i=>exact hr.row i i' y y' J (Cw hy) hy2
  have hKl:∀w,w∈K2->w∈K:=λw hw=>by rw[e1];exact LF _ hw
  rcases second with⟨h1,q1,q2,q3,q4⟩|⟨h1,⟨q1,q2,q3⟩|⟨w,q1,q2,q3,q4⟩⟩
  .refine build c0 [] (by rw[Jb,q1];rfl) rfl (.inl rfl) (λe=>absurd h1 e) λy hy=>⟨λ_=>?_,λ_=>?_⟩
   .rw[<-(hdone y hy).2,q4,e7];exact hl0
   .have:=(hdone y hy).1;rw[q3]at this;exact(Op.ret.inj this).symm
  .have hres:u.res=none:=by
    cases e:u.res with
    |none=>rfl
    |some v=>exact absurd (hdone v e).1 (q3 v)
   exact build c0 [] (by rw[Jb,q1];rfl) rfl (.inl rfl) (λ_ _=>hres) λy hy=>by rw[hres]at hy;cases hy
  .have hw2:K2.filter (λw=>D9 (AO b n t) w.a)=[w]:=by
    rw[q1,I2 (p:=λw:Ch=>D9 (AO b n t) w.a) (by unfold D9;rw[q2];simp)];rfl
   have hwK:=hKl w (by rw[q1];exact .head _);refine build (c0+1) [w] (by rw[Jb,hw2]) rfl (.inr ⟨w,rfl,h1,q2,?_,λy hy=>?_⟩) (λ_ e=>by cases e) λy hy=>⟨λe=>(by cases e),λe=>absurd e h1⟩
   .have:=(n7 w hwK).2.1;omega
   .rcases q4 with q4|⟨⟨z,q4⟩,q5⟩
    .exact absurd (hdone y hy).1 (q4 y)
    .refine⟨?_,by rw[<-(hdone y hy).2,q5,q2]⟩;unfold Ch.e;rw[q4,hy];exact(OF w hwK).2.2
structure MW (N:tyN)(U:Nat->List Ch)(tag:Nat->Nat->Int)(Gw:Nat->Nat->Prop):Prop where
 w1:∀(t i:tyN) (u:Ch),(U t)[i]?=some u->u.a.1≠1->u.e N<N->Gw t i
 ew:∀(t i:tyN),Gw t i->∃u,(U t)[i]?=some u/\u.a.1≠1/\0<=tag t i
 uniq:∀(t i t' i':tyN),Gw t i->Gw t' i'->tag t i=tag t' i'->t=t'/\i=i'
 rd:∀(t i:tyN) (u:Ch) (x:tyI),(U t)[i]?=some u->u.a.1=1->u.res=some x->u.e N<N->(tag t i<0/\x=0)\/∃(t' i':tyN) (w:Ch),Gw t' i'/\(U t')[i']?=some w/\tag t' i'=tag t i/\x=w.a.2.2/\w.fb<u.e N
 pw:∀(t i t' i':tyN) (u w:Ch),(U t)[i]?=some u->u.e N<N->(U t')[i']?=some w->Gw t' i'->u.e N<w.fb->tag t i<tag t' i'
 pr:∀(t i t' i':tyN) (u w:Ch),(U t)[i]?=some u->u.e N<N->(U t')[i']?=some w->w.a.1=1->w.e N<N->u.e N<w.fb->tag t i<=tag t' i'
structure Clock (A:Nat->AD->Nat->Nat->Int->Prop)(N:tyN)(τ:Nat->Nat):Prop where
 mono:∀p q,p<=q->q<N->τ p<=τ q
 acc:∀t a b e x,A t a b e x->e<N->τ b<τ e
 two:∀t t' a a' b e b' e' x x',A t a b e x->A t' a' b' e' x'->t≠t'->b<b'->b'<N->τ b<τ b'
 top:∀p,p<N->τ p<=4000
theorem N5{Q:AD->Prop}{b lo:tyI}{n me:tyN}{top:tyI}:∀(js:List Nat) {p:Int×Int} {k:Int×Int->Op Int},(∀j,j∈js->j≠me->Q (1,AO b n j,0))->(∀p,(k p).all Q)->(Hr b lo n me top js p k).all Q
 |[],p,k,h,hk=>hk p
 |j::js,p,k,h,hk=>by
  unfold Hr;split
  .exact λx=>N5 js (λj' hj'=>h j' (.tail _ hj')) hk
  .rename_i hj;exact⟨h j (.head _) hj,λx=>N5 js (λj' hj'=>h j' (.tail _ hj')) hk⟩
theorem Uj{Q:AD->Prop}(h1:∀j,j<n->j≠t->Q (1,AO b n j,0))(h2:∀x,Q (2,AO b n t,x)):(gg b lo n top t a).all Q:=by
 unfold gg;split
 .exact N5 _ (λj hj hne=>h1 j (Dz.1 hj) hne) λp=>trivial
 .exact N5 _ (λj hj hne=>h1 j (Dz.1 hj) hne) λp=>⟨h2 _,λ_=>trivial⟩
theorem Js{i b lo:tyI}{n me:tyN}{top:tyI}:∀(js:List Nat) {p:Int×Int} {k:Int×Int->Op Int},(∀p,(k p).keeps i)->(Hr b lo n me top js p k).keeps i
 |[],p,k,hk=>hk p
 |j::js,p,k,hk=>by
  unfold Hr;split
  .exact λx=>Js js hk
  .exact λx=>Js js hk
theorem gc{i:tyI}(h:i≠BD lo n t+1):(gg b lo n top t a).keeps i:=by
 unfold gg;split
 .exact Js _ λp=>trivial
 .exact Js _ λp x=>⟨λe=>h e.symm,trivial⟩
theorem PB{g:AD->Op Int}{b lo:tyI}{n me:tyN}{top:tyI}(hg:∀j,j<n->j≠me->Fu (g (1,AO b n j,0))):∀(js:List Nat) {p:Int×Int} {k:Int×Int->Op Int},(∀j,j∈js->j<n)->(∃j,j∈js/\j≠me)->Fu ((Hr b lo n me top js p k).sub g)
 |[],p,k,h,hk=>by obtain⟨j,hj,_⟩:=hk;cases hj
 |j::js,p,k,h,hk=>by
  unfold Hr;split
  .rename_i e;refine Fu.get λx=>PB hg js (λj' hj'=>h j' (.tail _ hj')) ?_
   obtain⟨j',q1,q2⟩:=hk;rcases BJ.1 q1 with rfl|q1
   .exact absurd e q2
   .exact⟨j',q1,q2⟩
  .rename_i hj;have hb:=hg j (h j (.head _)) hj;intro l l' L o' hp;rcases Path.bind (show Path ((g (1,AO b n j,0)).bind _) l L o' l' from hp)with⟨o1,q1,q2⟩|⟨v,L1,L2,l1,q1,q2,q3⟩
   .rcases hb _ _ _ _ q2 with⟨e1,e2⟩|q
    .refine .inl ⟨e1,λx e=>?_⟩;rw[e]at q1;cases o1 with
     |ret y=>exact e2 y rfl
     |ask a k=>cases q1
     |get i k=>cases q1
     |set i v k=>cases q1
     |note c k=>cases q1
     |live k=>cases q1
    .exact .inr q
   .rcases hb _ _ _ _ q2 with⟨_,e2⟩|⟨a,b',e,y,L',q⟩
    .exact absurd rfl (e2 v)
    .exact .inr ⟨a,b',e,y,L'++L2,by rw[q1,q];rfl⟩
theorem XX(hn:2<=n):Fu (aX b lo n top t a):=by
 have hex:∃j,j∈List.range n/\j≠t:=⟨if t=0 then 1 else 0,by rw[Dz];split<;>omega,by split<;>omega⟩;have hg:∀j,j<n->j≠t->Fu (Q5 b lo n top t (1,AO b n j,0)):=λj _ _=>LK hn
 unfold aX gg;split
 .exact PB hg _ (λj hj=>Dz.1 hj) hex
 .exact PB hg _ (λj hj=>Dz.1 hj) hex
theorem mf(hn:2<=n)(hlo:0<=lo/\BD lo n n<=32768){A:Nat->AD->Nat->Nat->Int->Prop}{N:tyN}{cells rg:Int->Prop}{U:Nat->List Ch}
  (h:G1 (aX b lo n top) A N cells rg U) (hrg:∀i,lo<=i->i<BD lo n n->rg i) (hcs:∀c,b<=c->c<AO b n n->cells c) (hout:∀t,n<=t->U t=[]):
  ∃W:Nat->List (Ch×List Ch),(∀t,(W t).map Prod.fst=U t)/\(∀t u K,(u,K)∈W t->u∈U t/\∃o' l',DE (Q5 b lo n top t) (gg b lo n top t u.a) u.l u.lo u.its K o' l'/\∀v,u.res=some v->o'= .ret v/\l'=u.l')/\
   ∀j,j<n->G1 (λt a=>RX (AO b n j) (BD lo n j) n j (ET top) t a) A N (λc=>AO b n j<=c/\c<AO b n j+16*((EC n:tyN):tyI)) (λi=>BD lo n j<=i/\i<BD lo n j+(2+18*((EC n:tyN):tyI))/\i≠BD lo n j+1) λt=>part (AO b n j) (W t):=by
 obtain⟨W,w1,w2,w3⟩:=G1.parts (T:=λt=>gg b lo n top t) (g:=λt=>Q5 b lo n top t) (λt a x=>rA x) h;refine⟨W,w1,w2,λj hj=>?_⟩;have hloc:=Nq hj hlo;have hb0:b<=AO b n j:=by unfold AO;omega
 have hbn:AO b n j+16*((EC n:tyN):tyI)<=AO b n n:=Ig hj;have hln:BD lo n j+(2+18*((EC n:tyN):tyI))<=BD lo n n:=Du hj;refine G1.fn (w3 _ _ (D9 (AO b n j)) (λc hc=>hcs c J J) (λi hi=>⟨hrg i J J,J⟩) λt u hu=>?_) λt u hu=>LJ hn (by have:=(Db.1 hu).2;unfold D9 at this;simpa using this)
 have htn:t<n:=by
  rcases CR t n with g|g
  .exact g
  .rw[hout t g]at hu;cases hu
 have other:∀(j':tyN) (a:AD),j'<n->a.2.1=AO b n j'->(t=j'↔a.1≠1)->D9 (AO b n j) a=false->(∀i,(BD lo n j<=i/\i<BD lo n j+(2+18*((EC n:tyN):tyI))/\i≠BD lo n j+1)->(Q5 b lo n top t a).keeps i)/\(Q5 b lo n top t a).all λa'=> ¬(AO b n j<=a'.2.1/\a'.2.1<AO b n j+16*((EC n:tyN):tyI)):=λj' a h1 h2 h3 h4=>by
  have hne:j'≠j:=λe=>by subst e;unfold D9 at h4;rw[h2]at h4;simp at h4
  rw[LJ hn h2];refine⟨λi hi=>(OR hn htn h1 ?_ h3).1,?_⟩
  .rcases CR j j' with g|g
   .have:=Du (lo:=lo) (n:=n) g;omega
   .have:=Du (lo:=lo) (n:=n) (show j'<j by omega);omega
  .have hall:=(OR (b:=AO b n j') (lo:=BD lo n j') (top:=ET top) (i:=BD lo n j'+1) hn htn h1 (.inr (.inr rfl)) h3).2;refine G1.parts.all_imp _ hall λa' hq=>?_
   rcases CR j j' with g|g
   .have:=Ig (b:=b) (n:=n) g;omega
   .have:=Ig (b:=b) (n:=n) (show j'<j by omega);omega
 refine⟨λi hi=>gc λe=>?_,Uj (λj' h1 h2 hon=>other j' _ h1 rfl ⟨λe=>absurd e.symm h2,λh=>absurd rfl h⟩ hon) λx hon=>other t _ htn rfl ⟨λ_=>show(2:tyI)≠1 by decide,λ_=>rfl⟩ hon⟩;rcases Fq j t with g|g|g
 .have:=Du (lo:=lo) (n:=n) g;omega
 .subst g;omega
 .have:=Du (lo:=lo) (n:=n) g;have:=Nq htn hlo;omega
theorem VU(top:tyI):B4 0 top=0/\DW 0 top=0:=by
 have hc:BC 0 0 4398046511104=0:=AQ;unfold B4 DW;rw[hc,Int.zero_emod,Int.zero_ediv];exact⟨rfl,rfl⟩
def mx0:Zt:=⟨0,0,0,false,λ_=>0,λ_=>0,(0,0),0⟩
theorem mg(hn:2<=n)(htop:0<=top/\top<=255)(hlo:0<=lo/\BD lo n n<=32768){A:Nat->AD->Nat->Nat->Int->Prop}{N:tyN}{cells rg:Int->Prop}{U:Nat->List Ch}
  (h:G1 (aX b lo n top) A N cells rg U) (hrg:∀i,lo<=i->i<BD lo n n->rg i) (hcs:∀c,b<=c->c<AO b n n->cells c) (hout:∀t,n<=t->U t=[]) (hval:∀t u,u∈U t->u.a.1≠1->0<=u.a.2.2/\u.a.2.2<=top) (hcnt:∀t,(U t).length<=500000)
  (nY:∀t t' a a' b e e' x x',A t a b e x->A t' a' b e' x'->t=t') {τ:Nat->Nat} (hτ:Clock A N τ) (hs:∀c,b<=c->c<AO b n n->GH A N c (if(c-b)%16<4 then Bo else 1)):∃tag Gw,MW N U tag Gw:=by
 classical
 obtain⟨W,w1,w2,wP⟩:=mf hn hlo h hrg hcs hout;have OG:∀t u K,(u,K)∈W t->u∈U t:=λt u K hm=>(w2 t u K hm).1
 have d7:∀t,n<=t->W t=[]:=λt ht=>by
  have:=w1 t;rw[hout t ht]at this;exact jk.1 this
 have zT:∀(t κ:tyN) (u:Ch) (K:List Ch),(W t)[κ]?=some (u,K)->(U t)[κ]?=some u:=λt κ u K hu=>by rw[<-w1,BY,hu];rfl
 have Wat:∀(t κ:tyN) (u:Ch),(U t)[κ]?=some u->∃K,(W t)[κ]?=some (u,K):=λt κ u hu=>by
  rw[<-w1,BY]at hu;cases e:(W t)[κ]? with
  |none=>rw[e]at hu;cases hu
  |some p=>rw[e]at hu;obtain⟨u',K⟩:=p;cases hu;exact⟨K,rfl⟩
 have hbz:∀t (a:AD),(gg b lo n top t a).all λa=>Fu (Q5 b lo n top t a):=λt a=>Uj (λj _ _=>LK hn) λx=>LK hn
 have yF:∀t,t<n->∃ds,TY b n t top N 0 0 0 (W t) ds:=λt ht=>by
  have hl:=Nq ht hlo;have hl2:=Du (lo:=lo) (n:=n) ht;exact VI hn ht ⟨hl.1,hl.2.1⟩ (RG:=rg) (hrg _ J J) (W t) (F:=aX b lo n top t) (at':=0) (c0:=0) (σ:=λ_=>0) (by rw[w1];exact h.uses t) (λu _=>XX hn) (λu K hm=>(w2 t u K hm).2) λu K hm=>hbz t u.a
 obtain⟨ds,hds⟩:∃ds:Nat->List Zt,∀t,t<n->TY b n t top N 0 0 0 (W t) (ds t):=by
  refine⟨λt=>if ht:t<n then Classical.choose (yF t ht)else[],λt ht=>?_⟩;show TY b n t top N 0 0 0 (W t) (if ht:t<n then Classical.choose (yF t ht)else[]);rw[IG ht];exact Cg (yF t ht)
 have kinds:∀t u K,(u,K)∈W t->∀w,w∈K->(w.a.1=1/\∃j,j<n/\j≠t/\w.a.2.1=AO b n j)\/(w.a.1=2/\w.a.2.1=AO b n t):=λt u K hm w hw=>by
  obtain⟨_,o',l',d,_⟩:=w2 t u K hm;exact d.all (Uj (Q:=λq=>(q.1=1/\∃j,j<n/\j≠t/\q.2.1=AO b n j)\/(q.1=2/\q.2.1=AO b n t)) (λj h1 h2=> .inl ⟨rfl,j,h1,h2,rfl⟩) λx=> .inr ⟨rfl,rfl⟩) w hw
 have hpm:∀(c:tyI) (t:tyN) (u':Ch),u'∈part c (W t)->u'.a.2.1=c/\∃u K,(u,K)∈W t/\u'∈K:=λc t u' hu=>by
  obtain⟨q1,q2⟩:=Db.1 hu;obtain⟨⟨u,K⟩,q3,q4⟩:=FZ.1 q1;exact⟨by unfold D9 at q2;simpa using q2,u,K,q3,q4⟩
 have hnew:∀(s v:tyI),0<=s->(0<=v/\v<=top)->0<=ES s v top/\ES s v top<=ET top/\DW (ES s v top) (BZ top)=min (s+1) 4095/\B4 (ES s v top) (BZ top)=v:=λs v hs0 hv=>by
  have hta:BZ top=top:=Bu top 255 htop.1 htop.2 J;unfold ES ET;rw[hta,Bu v top hv.1 hv.2 J];have h1:=unpack_pack (h:=min (s+1) 4095) (v:=v) (top:=top) J J hv;refine⟨?_,?_,h1.2,h1.1⟩
  .rw[Fp J J hv];have:=aI (show 0<=min (s+1) 4095 by omega) (show 0<=top+1 by omega);omega
  .rw[Fp J J hv,Fp J J J];have:=TQ (show min (s+1) 4095<=4095 by omega) (show 0<=top+1 by omega);omega
 have hmt:0<=ET top/\ET top<=1048576:=by
  have hta:BZ top=top:=Bu top 255 htop.1 htop.2 J;unfold ET;rw[hta,Fp J J J];have:=Int.mul_le_mul_of_nonneg_left (show top+1<=256 by omega) (show(0:tyI)<=4095 by omega);have:=aI (show(0:tyI)<=4095 by omega) (show 0<=top+1 by omega);omega
 have Yy:∀t,t<n->∀(i:tyN) (x:Zt),(ds t)[i]?=some x->0<=x.Dr.1:=λt ht i x hx=>by
  rw[(hds t ht).scan i x hx];exact(PK _ (0,0)).2.1
 have ue:∀t,t<n->∀(i:tyN) (x:Zt) (u:Ch) (K:List Ch),(ds t)[i]?=some x->(W t)[i]?=some (u,K)->x.Ik=true->0<=u.a.2.2/\u.a.2.2<=top:=λt ht i x u K hx hu hW=>by
  obtain⟨u2,K2,q1,_,_,_,_,_,_,q2,_⟩:=(hds t ht).at' i x hx;rw[hu]at q1;cases q1;exact hval t u (OG t u K (BI hu)) (q2.1 hW)
 have tab:∀j,j<n->∃f,SW ((part (AO b n j) (W j)).map (Ch.wr N)) (λp q x=> ∃t,t≠j/\B6 N (part (AO b n j) (W t)) p q x) f:=λj hj=>by
  have hl:=Nq hj hlo;have hln:=Du (lo:=lo) (n:=n) hj;have hbn:=Ig (b:=b) (n:=n) hj;have hb0:b<=AO b n j:=by unfold AO;omega
  have hb16:(AO b n j-b)%16=0:=by unfold AO;omega
  refine Ty hn hj hmt (by have:=hlo.2;have e:(((n-1)*(n-1):tyN):tyI)=((EC n:tyN):tyI):=rfl;rw[e];omega) (wP j hj) (λi h1 h2 h3=>⟨h1,h2,h3⟩) (λc h1 h2=>⟨h1,h2⟩) (λt ht=>by rw[d7 t ht];rfl) (λu' hu'=>?_) (λt ht u' hu'=>?_) ?_ nY λc h1 h2=>?_
  .obtain⟨κ,hκ,e⟩:=Dj hu';obtain⟨i,x,u,K,q1,q2,q3,q4,q5,q6⟩:=(hds j hj).put κ u' (by rw[<-e];exact gG hκ);have:=hnew x.Dr.1 u.a.2.2 (Yy j hj i x q1) (ue j hj i x u K q1 q2 q3);rw[q5];exact⟨rfl,this.1,this.2.1⟩
  .obtain⟨q1,u,K,q2,q3⟩:=hpm _ t u' hu';rcases kinds t u K q2 u' q3 with⟨q4,_⟩|⟨_,q4⟩
   .exact q4
   .rw[q1]at q4;exact absurd (Me hn q4).symm ht
  .have:=(hds j hj).len;have h2:(W j).length=(U j).length:=by rw[<-w1,Ca]
   have:=hcnt j;show(part (AO b n j) (W j)).length<=500000;omega
  .have e:(((n-1)*(n-1):tyN):tyI)=((EC n:tyN):tyI):=rfl;rw[e]at h2;have:=hs c J J;have h3:(c-AO b n j)%16=(c-b)%16:=J;rw[h3];exact this
 obtain⟨f,hf⟩:∃f:Nat->Nat->Nat,∀j,j<n->SW ((part (AO b n j) (W j)).map (Ch.wr N)) (λp q x=> ∃t,t≠j/\B6 N (part (AO b n j) (W t)) p q x) (f j):=by
  refine⟨λj=>if hj:j<n then Classical.choose (tab j hj)else λ_=>0,λj hj=>?_⟩;show SW _ _ (if hj:j<n then Classical.choose (tab j hj)else λ_=>0);rw[IG hj];exact Cg (tab j hj)
 obtain⟨X,hX⟩:∃X:Nat->Nat->Zt,X=λt i=>(ds t).getD i mx0:=⟨_,rfl⟩
 obtain⟨Kc,ACo⟩:∃Kc:Nat->Nat->Prop,Kc=λt i=>t<n/\(ds t)[i]?=some (X t i):=⟨_,rfl⟩
 have Xof:∀t i x,(ds t)[i]?=some x->X t i=x:=λt i x hx=>by rw[hX];exact Ai hx
 have Yz:∀t i x,t<n->(ds t)[i]?=some x->Kc t i:=λt i x ht hx=>by rw[ACo];exact⟨ht,by rw[Xof t i x hx];exact hx⟩
 have dx:∀t i,Kc t i->t<n/\(ds t)[i]?=some (X t i):=λt i hd=>by rw[ACo]at hd;exact hd
 obtain⟨S,hS⟩:∃S:Nat->Nat->Int,S=λj m=>match m with|0=>0|κ+1=>if hh:∃i,(ds j)[i]?=some (X j i)/\(X j i).Ik=true/\(X j i).own=κ then min ((X j (Classical.choose hh)).Dr.1+1) 4095 else 0:=⟨_,rfl⟩
 have S0:∀j,S j 0=0:=λj=>by rw[hS]
 have bP:∀j,j<n->∀i i',(ds j)[i]?=some (X j i)->(ds j)[i']?=some (X j i')->(X j i).Ik=true->(X j i').Ik=true->(X j i).own=(X j i').own->i=i':=λj hj i i' h1 h2 h3 h4 h5=>by
  rcases Fq i i' with g|g|g
  .have:=((hds j hj).cnt i i' _ _ g h1 h2).2 h3;omega
  .exact g
  .have:=((hds j hj).cnt i' i _ _ g h2 h1).2 h4;omega
 have S1:∀j i,j<n->(ds j)[i]?=some (X j i)->(X j i).Ik=true->S j ((X j i).own+1)=min ((X j i).Dr.1+1) 4095:=λj i hj h1 h2=>by
  have hh:∃i',(ds j)[i']?=some (X j i')/\(X j i').Ik=true/\(X j i').own=(X j i).own:=⟨i,h1,h2,rfl⟩;have e:S j ((X j i).own+1)=if hh:∃i',(ds j)[i']?=some (X j i')/\(X j i').Ik=true/\(X j i').own=(X j i).own then min ((X j (Classical.choose hh)).Dr.1+1) 4095 else 0:=by rw[hS]
  rw[e,IG hh];obtain⟨q1,q2,q3⟩:=Cg hh;rw[bP j hj _ i q1 h1 q2 h2 q3]
 have ACp:∀j m,j<n->0<=S j m:=λj m hj=>by
  cases m with
  |zero=>rw[S0];exact In _
  |succ κ=>
   have e:S j (κ+1)=if hh:∃i',(ds j)[i']?=some (X j i')/\(X j i').Ik=true/\(X j i').own=κ then min ((X j (Classical.choose hh)).Dr.1+1) 4095 else 0:=by rw[hS]
   rw[e];split
   .rename_i hh;have:=Yy j hj _ _ (Cg hh).1;omega
   .exact In _
 obtain⟨F,hF⟩:∃F:Nat->Nat->Nat->Nat,F=λt i j=>if j=t then(X t i).own else f j ((X t i).rb j):=⟨_,rfl⟩
 have S7:∀t i,F t i t=(X t i).own:=λt i=>by rw[hF];exact AK rfl
 have Vx:∀t i j,j≠t->F t i j=f j ((X t i).rb j):=λt i j hne=>by rw[hF];exact AI hne
 have oA:∀j,j<n->∀κ u',(part (AO b n j) (W j))[κ]?=some u'->∃i u K,(ds j)[i]?=some (X j i)/\(W j)[i]?=some (u,K)/\(X j i).Ik=true/\(X j i).own=κ/\u'.a.2.2=ES (X j i).Dr.1 u.a.2.2 top/\(X j i).de<u'.fb:=λj hj κ u' hu'=>by
  obtain⟨i,x,u,K,q1,q2,q3,q4,q5,q6⟩:=(hds j hj).put κ u' hu';have e:=Xof j i x q1;subst e;exact⟨i,u,K,q1,q2,q3,J,by rw[q5],q6⟩
 have reads:∀t i j,Kc t i->j<n->j≠t->∃e,e<=(X t i).de/\(X t i).b<=(X t i).rb j/\(∃s,s≠j/\B6 N (part (AO b n j) (W s)) ((X t i).rb j) e ((X t i).x j))/\F t i j<=(part (AO b n j) (W j)).length/\B6 N (part (AO b n j) (W t)) ((X t i).rb j) e ((X t i).x j):=λt i j hd hj hne=>by
  obtain⟨ht,hx⟩:=dx t i hd;obtain⟨e,q1,q2,q3⟩:=(hds t ht).Z6 i _ hx j hj hne;have:=(hf j hj).le _ _ _ ⟨t,Cz hne,q3⟩;rw[Ca]at this;exact⟨e,q1,q2,⟨t,Cz hne,q3⟩,by rw[Vx t i j hne];exact this,q3⟩
 have oC:∀t i,Kc t i->(X t i).own<=(part (AO b n t) (W t)).length:=λt i hd=>by
  obtain⟨ht,hx⟩:=dx t i hd;obtain⟨_,_,q3⟩:=(hds t ht).mine i _ hx;cases e:(X t i).own with
  |zero=>exact DV _
  |succ m=>
   obtain⟨u',r1,_⟩:=q3 m J;exact(Be.1 r1).1
 have Fle:∀t i j,Kc t i->j<n->F t i j<=(part (AO b n j) (W j)).length:=λt i j hd hj=>by
  by_cases hne:j=t
  .subst hne;rw[S7];exact oC j i hd
  .obtain⟨e,_,_,_,q,_⟩:=reads t i j hd hj hne;exact q
 have UZ:∀t i j,Kc t i->j<n->(DO top ((X t i).x j)).1=S j (F t i j)/\(F t i j=0->(DO top ((X t i).x j)).2=0)/\∀m,F t i j=m+1->∃i' u K,(ds j)[i']?=some (X j i')/\(W j)[i']?=some (u,K)/\(X j i').Ik=true/\(X j i').own=m/\(DO top ((X t i).x j)).2=u.a.2.2:=λt i j hd hj=>by
  obtain⟨ht,hx⟩:=dx t i hd
  have hv:(F t i j=0->(X t i).x j=0)/\∀m,F t i j=m+1->∃u',(part (AO b n j) (W j))[m]?=some u'/\(X t i).x j=u'.a.2.2:=by
   by_cases hne:j=t
   .subst hne;rw[S7];obtain⟨_,q2,q3⟩:=(hds j hj).mine i _ hx;exact⟨λe=>q2 e,λm hm=>q3 m J⟩
   .obtain⟨e,_,_,q3,q4,_⟩:=reads t i j hd hj hne;have hvl:=(hf j hj).val _ _ _ q3;rw[<-Vx t i j hne]at hvl;refine⟨λe0=>by rw[hvl,e0];rfl,λm hm=>?_⟩;have G8:m<(part (AO b n j) (W j)).length:=J;refine⟨_,gG G8,?_⟩;rw[hvl,hm,Bz (Ec (gG G8))];rfl
  cases e:F t i j with
  |zero=>
   have hx0:=hv.1 e;rw[hx0,S0];have:=VU (BZ top);exact⟨this.2,λ_=>this.1,λm hm=>J⟩
  |succ m=>
   obtain⟨u',q1,q2⟩:=hv.2 m e;obtain⟨i',u,K,r1,r2,r3,r4,r5,r6⟩:=oA j hj m u' q1;have hn':=hnew (X j i').Dr.1 u.a.2.2 (Yy j hj i' _ r1) (ue j hj i' _ u K r1 r2 r3);rw[q2,r5];refine⟨?_,λh0=>J,λm' hm'=>?_⟩
   .show DW _ _=_;rw[hn'.2.2.1,<-r4,S1 j i' hj r1 r3]
   .have:m=m':=J;subst this;exact⟨i',u,K,r1,r2,r3,r4,hn'.2.2.2⟩
 have P0:∀t i,Kc t i->(∀j,j<n->S j (F t i j)<=(X t i).Dr.1)/\∃AC,AC<n/\(X t i).Dr.1=S AC (F t i AC)/\(X t i).Dr.2=(DO top ((X t i).x AC)).2/\∀j,j<n->AC<j->S j (F t i j)<(X t i).Dr.1:=λt i hd=>by
  obtain⟨ht,hx⟩:=dx t i hd;have hsc:=(hds t ht).scan i _ hx;have hat:∀j,j<n->((List.range n).map λj=>DO top ((X t i).x j))[j]?=some (DO top ((X t i).x j)):=λj hj=>by rw[BY,Qp hj];rfl
  obtain⟨b1,b2,b3⟩:=PK ((List.range n).map λj=>DO top ((X t i).x j)) (0,0);rw[<-hsc]at b1 b2 b3;refine⟨λj hj=>?_,?_⟩
  .rw[<-(UZ t i j hd hj).1];exact b1 _ (BI (hat j hj))
  .rcases b3 with⟨_,b3⟩|⟨AC,b3,b4⟩
   .have h0:=b3 _ (BI (hat 0 J));have h1:=(UZ t i 0 hd J).1;have h2:=ACp 0 (F t i 0) J;rw[h1]at h0;omega
   .have hJ:AC<n:=by have:=(Be.1 b3).1;simpa using this
    rw[hat AC hJ]at b3;have b5:=El b3;refine⟨AC,hJ,by rw[<-b5];exact(UZ t i AC hd hJ).1,by rw[<-b5],λj hj hlt=>?_⟩;rw[<-(UZ t i j hd hj).1];exact b4 j _ hlt (hat j hj)
 have jY:∀t i,Kc t i->∃u K,(W t)[i]?=some (u,K)/\(X t i).b=u.fb/\(X t i).e=u.e N/\u.fb<(X t i).de/\(X t i).de<=u.e N/\(X t i).de<N/\((X t i).Ik=true↔u.a.1≠1)/\∃a e y,A t a u.fb e y/\e<=(X t i).de:=λt i hd=>by
  obtain⟨ht,hx⟩:=dx t i hd;obtain⟨u,K,q1,q2,q3,q4,q5,q6,q7,q8,a,e,y,q9,q10⟩:=(hds t ht).at' i _ hx;exact⟨u,K,q1,q2,q3,q5,q6,q7,q8,a,e,y,h.inl t u (OG t u K (BI q1)) _ _ _ _ q9,q10⟩
 have eF:∀(c:tyI) (t:tyN) (u':Ch),u'∈part c (W t)->u'.its≠[]/\∃a e x,A t a u'.fb e x/\u'.fb<e/\e<=AM u'.lo u'.its:=λc t u' hu'=>by
  obtain⟨_,u,K,q2,q3⟩:=hpm c t u' hu';obtain⟨_,o',l',d,_⟩:=w2 t u K q2;have hU:=OG t u K q2;have hsq:=((h.uses t).mem u hU).1;have hsu:=(d.within hsq u' q3).2.1;obtain⟨a,b',e,x,L',q4⟩:=d.busy (hbz t u.a) u' q3;have e2:u'.fb=b':=by unfold Ch.fb;rw[q4];rfl
  have h4:=Seq.acc hsu (show Item.acc a b' e x∈u'.its by rw[q4];exact .head _);exact⟨by rw[q4];simp,a,e,x,by rw[e2];exact h.inl t u hU _ _ _ _ (d.acc.2 ⟨u',q3,by rw[q4];exact .head _⟩),J,h4.2.2⟩
 have Vy:∀j,j<n->∀t,(∀u',u'∈part (AO b n j) (W t)->AM u'.lo u'.its<=N/\u'.fb<AM u'.lo u'.its)/\∀(κ κ':tyN) (u v:Ch),κ<κ'->(part (AO b n j) (W t))[κ]?=some u->(part (AO b n j) (W t))[κ']?=some v->AM u.lo u.its<v.fb:=λj hj t=>by
  obtain⟨g1,g2⟩:=Bk.busy ((wP j hj).uses t) λu _=>LK hn
  exact⟨λu' hu'=>⟨(g1 u' hu').2.1,((g1 u' hu').2.2.1 (eF _ t u' hu').1).2⟩,fun κ κ' u v hk hu hv=>g2 κ κ' u v hk hu hv (eF _ t v (BI hv)).1⟩
 have clock:∀(p j κ:tyN) (u':Ch),j<n->(part (AO b n j) (W j))[κ]?=some u'->u'.fb=p->S j (κ+1)<=((τ p:tyN):tyI):=λp=>by
  induction p using Nat.strongRecOn with
  |ind p ih=>
   intro j κ u' hj hu' hp;subst hp;obtain⟨i,u,K,q1,q2,q3,q4,q5,q6⟩:=oA j hj κ u' hu';have hd:=Yz j i _ hj q1;obtain⟨u2,K2,p1,p2,p3,p4,p5,p6,p7,a0,e0,y0,p8,p9⟩:=jY j i hd;have hm':=BI hu';obtain⟨_,a',e',x',r1,r2,r3⟩:=eF _ j u' hm';have hN:=(Vy j hj j).1 u' hm';rw[<-q4,S1 j i hj q1 q3];obtain⟨_,AC,hJ,b1,_,_⟩:=P0 j i hd;have KK:u'.fb<N:=J;cases Y0:F j i AC with
   |zero=>
    rw[Y0,S0]at b1;have t1:=hτ.acc j _ _ _ _ p8 J;have t2:=hτ.mono e0 u'.fb J J;omega
   |succ m=>
    have hlen:=Fle j i AC hd hJ;have G8:m<(part (AO b n AC) (W AC)).length:=J;have hm:=gG G8;obtain⟨_,a2,e2,x2,r4,r5,r6⟩:=eF _ AC _ (KD G8)
    have hlt:((part (AO b n AC) (W AC))[m]).fb<u'.fb/\τ ((part (AO b n AC) (W AC))[m]).fb<τ u'.fb:=by
     by_cases hne:AC=j
     .subst hne;rw[S7]at Y0;have h5:=(Vy AC hJ AC).2 m κ _ u' J hm hu';have h6:=hτ.acc AC _ _ _ _ r4 J;have h7:=hτ.mono e2 u'.fb J KK;exact⟨J,J⟩
     .obtain⟨e,z1,z2,z3,z4,z5⟩:=reads j i AC hd hJ hne;rw[Vx j i AC hne]at Y0;have h5:=(hf AC hJ).ahead _ _ _ z3 m _ (Ec hm) J;have h6:((part (AO b n AC) (W AC))[m]).fb<e:=h5;exact⟨J,hτ.two _ _ _ _ _ _ _ _ _ _ r4 r1 hne J KK⟩
    have h8:=ih _ J AC m _ hJ hm rfl;rw[Y0]at b1;omega
 have cap:∀t i,Kc t i->(X t i).Dr.1<=4000:=λt i hd=>by
  obtain⟨_,AC,hJ,b1,_,_⟩:=P0 t i hd;cases Y0:F t i AC with
  |zero=>rw[Y0,S0]at b1;omega
  |succ m=>
   have hlen:=Fle t i AC hd hJ;have G8:m<(part (AO b n AC) (W AC)).length:=J;have h1:=clock _ AC m _ hJ (gG G8) rfl;have h2:=(Vy AC hJ AC).1 _ (KD G8);have h3:=hτ.top ((part (AO b n AC) (W AC))[m]).fb J;rw[Y0]at b1;omega
 have oD:∀j,j<n->∀κ,κ<(part (AO b n j) (W j)).length->∃i,(ds j)[i]?=some (X j i)/\(X j i).Ik=true/\(X j i).own=κ:=λj hj κ hκ=>by
  obtain⟨i,u,K,q1,q2,q3,q4,_⟩:=oA j hj κ _ (gG hκ);exact⟨i,q1,q3,q4⟩
 have step:∀j i,j<n->(ds j)[i]?=some (X j i)->(X j i).Ik=true->S j (X j i).own<S j ((X j i).own+1):=λj i hj h1 h2=>by
  have hd:=Yz j i _ hj h1;have h3:=(P0 j i hd).1 j hj;rw[S7]at h3;have:=cap j i hd;rw[S1 j i hj h1 h2];omega
 have Sb:aQ N n Kc (λt i=>(X t i).Ik=true) (λt i=>(X t i).b) (λt i=>(X t i).de) (λt i=>(X t i).e) F S (λt i=>min ((X t i).Dr.1+1) 4095) (λt i=>(X t i).own):=
  {O7:=λt i hd=>by
    obtain⟨u,K,q1,q2,q3,q4,q5,_⟩:=jY t i hd;exact⟨(dx t i hd).1,J,J⟩
   S0:=S0
   wr:=λt i hd hw=>S1 t i (dx t i hd).1 (dx t i hd).2 hw
   st:=λt i hd hw j hj=>by
    have h1:=(P0 t i hd).1 j hj;have h2:=cap t i hd;omega
   mine:=λt i _=>S7 t i
   up:=λj x y hj hxy hex=>by
    have hall:∀κ,κ<y->∃i,(ds j)[i]?=some (X j i)/\(X j i).Ik=true/\(X j i).own=κ:=fun κ hκ=>by
     obtain⟨t,i,hd,q⟩:=hex;rcases q with q|⟨rfl,q2,q3⟩
     .exact oD j hj κ (by have:=Fle t i j hd hj;omega)
     .by_cases e:κ=(X t i).own
      .exact⟨i,(dx t i hd).2,q2,e.symm⟩
      .exact oD t hj κ (by have:=oC t i hd;omega)
    induction y with
    |zero=>obtain rfl:x=0:=J
           exact In _
    |succ y ih=>
     rcases CR x (y+1)with g|g
     .obtain⟨i,q1,q2,q3⟩:=hall y (I7 _);have h1:=step j i hj q1 q2;rw[q3]at h1
      have h2:=ih J (by
       obtain⟨t,i,hd,q⟩:=hex;rcases q with q|⟨q1,q2,q3⟩
       .exact⟨t,i,hd,.inl J⟩
       .exact⟨t,i,hd,.inr ⟨q1,q2,J⟩⟩) fun κ hκ=>hall κ J
      omega
     .obtain rfl:x=y+1:=J;exact In _
   mono:=λt i t' i' hd hd' hlt he j hj=>by
    obtain⟨u,K,p1,p2,p3,p4,p5,p6,p7,_⟩:=jY t i hd;obtain⟨u',K',p1',p2',p3',p4',p5',p6',p7',_⟩:=jY t' i' hd';by_cases h1:j=t
    .subst h1;rw[S7];by_cases h2:j=t'
     .subst h2;rw[S7]
      have hii:i<i':=by
       rcases Fq i i' with g|g|g
       .exact g
       .subst g;omega
       .have:=(hds j hj).row i' i _ _ g (dx j i' hd').2 (dx j i hd).2;omega
      exact((hds j hj).cnt i i' _ _ hii (dx j i hd).2 (dx j i' hd').2).1
     .rw[Vx t' i' j h2];obtain⟨e,z1,z2,z3,z4,z5⟩:=reads t' i' j hd' hj h2;rcases Pf (X j i).own with g|g
      .omega
      .have hol:=oC j i hd;obtain⟨i0,q1,q2,q3⟩:=oD j hj ((X j i).own-1) J
       have hi0:i0<i:=by
        rcases Fq i0 i with g2|g2|g2
        .exact g2
        .subst g2;omega
        .have:=((hds j hj).cnt i i0 _ _ g2 (dx j i hd).2 q1).1;omega
       have hrow:=(hds j hj).row i0 i _ _ hi0 q1 (dx j i hd).2;obtain⟨κ,w',s1,s2,s3⟩:=(hds j hj).CY i0 _ q1 q2 J;have:=(hf j hj).behind _ _ _ z3 κ _ (Ec s2) (by show w'.e N<_;omega);omega
    .rw[Vx t i j h1];obtain⟨e,z1,z2,z3,z4,z5⟩:=reads t i j hd hj h1;by_cases h2:j=t'
     .subst h2;rw[S7];rcases Pf (f j ((X t i).rb j))with g|g
      .omega
      .rw[Vx t i j h1]at z4;have G8:f j ((X t i).rb j)-1<(part (AO b n j) (W j)).length:=J;have hm:=gG G8;have hah:=(hf j hj).ahead _ _ _ z3 _ _ (Ec hm) (show f j ((X t i).rb j)-1<f j ((X t i).rb j) by omega);have AGm:((part (AO b n j) (W j))[f j ((X t i).rb j)-1]).fb<e:=hah;obtain⟨i0,u0,K0,q1,q2,q3,q4,q5,q6⟩:=oA j hj _ _ hm
       have hi0:i0<i':=by
        rcases Fq i0 i' with g2|g2|g2
        .exact g2
        .subst g2;omega
        .have:=(hds j hj).row i' i0 _ _ g2 (dx j i' hd').2 q1;obtain⟨_,_,_,r2,r3,r4,r5,_⟩:=jY j i0 (Yz j i0 _ hj q1);omega
       have:=((hds j hj).cnt i0 i' _ _ hi0 q1 (dx j i' hd').2).2 q3;omega
     .rw[Vx t' i' j h2];obtain⟨e',z1',z2',z3',z4',z5'⟩:=reads t' i' j hd' hj h2;exact(hf j hj).mono _ _ _ _ _ _ z3 z3' J
   over:=λt i t' i' hd hd' hlt he hw=>by
    obtain⟨ht,hx⟩:=dx t i hd;by_cases h2:t=t'
    .subst h2;rw[S7];obtain⟨_,_,_,r2,r3,r4,r5,_⟩:=jY t i hd
     have hii:i<i':=by
      rcases Fq i i' with g|g|g
      .exact g
      .subst g;omega
      .have:=(hds t ht).row i' i _ _ g (dx t i' hd').2 hx;obtain⟨_,_,_,r2',r3',r4',r5',_⟩:=jY t i' hd';omega
     exact((hds t ht).cnt i i' _ _ hii hx (dx t i' hd').2).2 hw
    .rw[Vx t' i' t h2];obtain⟨e',z1',z2',z3',z4',z5'⟩:=reads t' i' t hd' ht h2;obtain⟨κ,w',s1,s2,s3⟩:=(hds t ht).CY i _ hx hw he;have:=(hf t ht).behind _ _ _ z3' κ _ (Ec s2) (by show w'.e N<_;omega)
     omega}
 have oE:∀t i u,(U t)[i]?=some u->u.e N<N->Kc t i/\(X t i).b=u.fb/\(X t i).e=u.e N/\((X t i).Ik=true↔u.a.1≠1)/\(∀y,u.res=some y->u.a.1=1->y=(X t i).Dr.2):=λt i u hu hlt=>by
  have htn:t<n:=by
   rcases CR t n with g|g
   .exact g
   .rw[hout t g]at hu;simp at hu
  obtain⟨K,hK⟩:=Wat t i u hu
  have hres:∃y,u.res=some y:=by
   cases e:u.res with
   |none=>unfold Ch.e at hlt;rw[e]at hlt;exact absurd hlt (EL _)
   |some y=>exact⟨y,rfl⟩
  obtain⟨y,hy⟩:=hres;obtain⟨x,q1,q2⟩:=(hds t htn).fin i u K hK y hy hlt;have e:=Xof t i x q1;subst e;have hd:=Yz t i _ htn q1;obtain⟨u2,K2,p1,p2,p3,p4,p5,p6,p7,_⟩:=jY t i hd;rw[hK]at p1;cases p1;exact⟨hd,p2,p3,p7,λy' hy' h1=>by rw[hy]at hy';cases hy';exact q2 h1⟩
 obtain⟨tag,htag⟩:∃tag:Nat->Nat->Int,(∀t i,Kc t i->(X t i).Ik=true->tag t i=GB n (min ((X t i).Dr.1+1) 4095) t)/\∀t i,Kc t i->¬(X t i).Ik=true->((X t i).Dr.1=0->tag t i= -1)/\((X t i).Dr.1≠0->∃AC,AC<n/\(X t i).Dr.1=S AC (F t i AC)/\(X t i).Dr.2=(DO top ((X t i).x AC)).2/\(∀j,j<n->AC<j->S j (F t i j)<(X t i).Dr.1)/\tag t i=GB n (X t i).Dr.1 AC):=by
  refine⟨λt i=>if hd:Kc t i then(if(X t i).Ik=true then GB n (min ((X t i).Dr.1+1) 4095) t else if(X t i).Dr.1=0 then-1 else GB n (X t i).Dr.1 (Classical.choose (P0 t i hd).2))else 0,λt i hd hw=>?_,λt i hd hw=>⟨λe=>?_,λe=>?_⟩⟩
  .dsimp only;rw[IG hd,AK hw]
  .dsimp only;rw[IG hd,AI hw,AK e]
  .obtain⟨j1,j2,j3,j4⟩:=Cg (P0 t i hd).2;exact⟨_,j1,j2,j3,j4,by dsimp only;rw[IG hd,AI hw,AI e]⟩
 have ACq:∀t i,Kc t i->¬(X t i).Ik=true->∀j,j<n->0<S j (F t i j)->GB n (S j (F t i j)) j<=tag t i:=λt i hd hw j hj hpos=>by
  have hb:=(P0 t i hd).1 j hj;obtain⟨AC,hJ,b2,b3,b4,b5⟩:=(htag.2 t i hd hw).2 J;rw[b5];rcases CR AC j with g|g
  .exact Int.le_of_lt (M8 hj (b4 j hj g))
  .have h1:=VT (n:=n) (j:=j) hb;have h2:GB n (X t i).Dr.1 j<=GB n (X t i).Dr.1 AC:=by unfold GB;omega
   omega
 have yG:∀(s:tyI) (j:tyN),0<=s->0<=GB n s j:=λs j hs0=>by
  unfold GB;have:=aI hs0 (show 0<=(n:tyI) by omega);omega
 refine⟨tag,λt i=>Kc t i/\(X t i).Ik=true,λt i u hu hk hlt=>?_,λt i ⟨hd,hw⟩=>?_,λt i t' i' ⟨hd,hw⟩ ⟨hd',hw'⟩ he=>?_,λt i u x hu hk hx hlt=>?_,λt i t' i' u w hu hlt hw ⟨hd',hw'⟩ hb=>?_,λt i t' i' u w hu hlt hw hk hlt' hb=>?_⟩
 .obtain⟨hd,_,_,q,_⟩:=oE t i u hu hlt;exact⟨hd,q.2 hk⟩
 .obtain⟨u,K,q1,q2,q3,q4,q5,q6,q7,_⟩:=jY t i hd;refine⟨u,zT t i u K q1,q7.1 hw,?_⟩;rw[htag.1 t i hd hw];have:=Yy t (dx t i hd).1 i _ (dx t i hd).2;exact yG _ _ J
 .rw[htag.1 t i hd hw,htag.1 t' i' hd' hw']at he;obtain⟨e1,e2⟩:=mC (dx t i hd).1 (dx t' i' hd').1 he;subst e2;refine⟨rfl,?_⟩;rcases Fq (X t i).own (X t i').own with g|g|g
  .have:=Sb.uniq hd hd' hw hw' g;have h2:min ((X t i).Dr.1+1) 4095<min ((X t i').Dr.1+1) 4095:=this;omega
  .exact bP t (dx t i hd).1 i i' (dx t i hd).2 (dx t i' hd').2 hw hw' g
  .have:=Sb.uniq hd' hd hw' hw g;have h2:min ((X t i').Dr.1+1) 4095<min ((X t i).Dr.1+1) 4095:=this;omega
 .obtain⟨hd,q1,q2,q3,q4⟩:=oE t i u hu hlt;have hnw:¬(X t i).Ik=true:=λe=>(q3.1 e) hk
  have hxe:=q4 x hx hk;by_cases hb0:(X t i).Dr.1=0
  .left
   refine⟨by rw[(htag.2 t i hd hnw).1 hb0];decide,?_⟩;obtain⟨_,AC,hJ,b1,b2,_⟩:=P0 t i hd;obtain⟨p1,p2,p3⟩:=UZ t i AC hd hJ;rw[hxe,b2];cases Y0:F t i AC with
   |zero=>exact p2 Y0
   |succ m=>
    exfalso;obtain⟨i',u',K',r1,r2,r3,r4,_⟩:=p3 m Y0;have h1:=step AC i' hJ r1 r3;rw[r4]at h1;have h2:=ACp AC m hJ;rw[Y0]at b1;omega
  .right
   obtain⟨AC,hJ,b2,b3,b4,b5⟩:=(htag.2 t i hd hnw).2 hb0;obtain⟨p1,p2,p3⟩:=UZ t i AC hd hJ;cases Y0:F t i AC with
   |zero=>rw[Y0,S0]at b2;exact absurd b2 hb0
   |succ m=>
    obtain⟨i',u',K',r1,r2,r3,r4,r5⟩:=p3 m Y0;have hd':=Yz AC i' _ hJ r1;refine⟨AC,i',u',⟨hd',r3⟩,zT AC i' u' K' r2,?_,by rw[hxe,b3,r5],?_⟩
    .rw[htag.1 AC i' hd' r3,b5,b2,Y0,<-r4,S1 AC i' hJ r1 r3]
    .obtain⟨u2,K2,s1,s2,s3,s4,s5,s6,s7,_⟩:=jY AC i' hd';rw[r2]at s1;cases s1;obtain⟨u3,K3,z1,z2,z3,z4,z5,z6,z7,_⟩:=jY t i hd;by_cases hne:AC=t
     .subst hne;rw[S7]at Y0
      have hii:i'<i:=by
       rcases Fq i' i with g|g|g
       .exact g
       .subst g;exact absurd r3 hnw
       .have:=((hds AC hJ).cnt i i' _ _ g (dx AC i hd).2 r1).1;omega
      have:=(hds AC hJ).row i' i _ _ hii r1 (dx AC i hd).2;omega
     .obtain⟨e,y1,y2,y3,y4,y5⟩:=reads t i AC hd hJ hne;have G8:m<(part (AO b n AC) (W AC)).length:=J;have hm:=gG G8;rw[Vx t i AC hne]at Y0;have hah:=(hf AC hJ).ahead _ _ _ y3 m _ (Ec hm) J;have AGm:((part (AO b n AC) (W AC))[m]).fb<e:=hah;obtain⟨i2,u4,K4,v1,v2,v3,v4,v5,v6⟩:=oA AC hJ m _ hm;have:=bP AC hJ i' i2 r1 v1 r3 v3 J;subst this;omega
 .obtain⟨hd,q1,q2,q3,q4⟩:=oE t i u hu hlt;obtain⟨u',K',p1,p2,p3,_⟩:=jY t' i' hd';have:u'=w:=by have:=zT t' i' u' K' p1;rw[hw]at this;exact(El this).symm
  subst this;obtain⟨g1,g2⟩:=Sb.mG hd hd' hw' (by show(X t i).e<(X t' i').b;omega) (by show(X t i).e<N;omega);rw[htag.1 t' i' hd' hw'];by_cases QI:(X t i).Ik=true
  .rw[htag.1 t i hd QI];exact g2 QI
  .by_cases hb0:(X t i).Dr.1=0
   .rw[(htag.2 t i hd QI).1 hb0];have:=Yy t' (dx t' i' hd').1 i' _ (dx t' i' hd').2;have:=yG (min ((X t' i').Dr.1+1) 4095) t' J;omega
   .obtain⟨AC,hJ,b2,b3,b4,b5⟩:=(htag.2 t i hd QI).2 hb0;rw[b5,b2];exact g1 AC hJ
 .obtain⟨hd,q1,q2,q3,q4⟩:=oE t i u hu hlt;obtain⟨hd',q1',q2',q3',q4'⟩:=oE t' i' w hw hlt';have sS:¬(X t' i').Ik=true:=λe=>(q3'.1 e) hk
  obtain⟨g1,g2⟩:=Sb.rD hd hd' (by show(X t i).e<(X t' i').b;omega) (by show(X t i).e<N;omega);by_cases QI:(X t i).Ik=true
  .rw[htag.1 t i hd QI];have h1:=g2 QI;have ht:=(dx t i hd).1;have h2:=Sb.over t i t' i' hd hd' (by show(X t i).e<(X t' i').b;omega) (by show(X t i).e<N;omega) QI;have h3:=Sb.up t ((X t i).own+1) (F t' i' t) ht h2 ⟨t',i',hd',.inl (A9 _)⟩;rw[S1 t i ht (dx t i hd).2 QI]at h3;have:=Yy t ht i _ (dx t i hd).2;exact qm h1 (ACq t' i' hd' sS t ht J)
  .by_cases hb0:(X t i).Dr.1=0
   .rw[(htag.2 t i hd QI).1 hb0];by_cases ACr:(X t' i').Dr.1=0
    .rw[(htag.2 t' i' hd' sS).1 ACr];exact In _
    .obtain⟨AC,hJ,b2,b3,b4,b5⟩:=(htag.2 t' i' hd' sS).2 ACr;rw[b5];have:=Yy t' (dx t' i' hd').1 i' _ (dx t' i' hd').2;have:=yG (X t' i').Dr.1 AC this;omega
   .obtain⟨AC,hJ,b2,b3,b4,b5⟩:=(htag.2 t i hd QI).2 hb0;rw[b5,b2];have h3:=Sb.up AC _ _ hJ (Sb.mono t i t' i' hd hd' (by show(X t i).e<(X t' i').b;omega) (by show(X t i).e<N;omega) AC hJ) ⟨t',i',hd',.inl (A9 _)⟩;have:=Yy t (dx t i hd).1 i _ (dx t i hd).2;exact qm (g1 AC hJ) (ACq t' i' hd' sS AC hJ J)
end
end Go.Proofs.YtpodgcpkccpnfaaGreat
