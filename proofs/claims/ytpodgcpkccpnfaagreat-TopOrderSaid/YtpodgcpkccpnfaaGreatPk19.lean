import Derived.Test.YtpodgcpkccpnfaaGreatPk18
set_option linter.unusedVariables false
set_option linter.unusedSimpArgs false
set_option maxRecDepth 20000
set_option maxHeartbeats 40000000
namespace Go.Proofs.YtpodgcpkccpnfaaGreat
variable{Q:AD->Prop}{b c i lo:Int}{cells rg:Int->Prop}{P:List (WR×Bool)}{N j k:Nat}{A:Nat->AD->Nat->Nat->Int->Prop}{U:Nat->List Ch}{w:WR}
section
open Go.RowKit
theorem TO{r y:tyI}(hr:r=0\/r=1)(hy:y=0\/y=1)(h:y≠r):1-r=y:=J
def FB.Yg (last:tyI):List FB->List Int
 |[]=>[]
 |E::es=>E.res last::FB.Yg (E.last last) es
theorem ba.facts{vs:List WR}{tw:List EH}:∀{es:List FB} {ns:List Nat} {p:tyN} {last:tyI},ba vs tw p last es ns->ns.length=es.length/\∀(k:tyN) (E:FB),es[k]?=some E->∃n,ns[k]?=some n/\p<=n/\n<=vs.length/\(FB.Yg last es)[k]?=some ((n%2:tyN):tyI)/\
  (∀(i:tyN) (w:WR),vs[i]?=some w->i<n->w.b<E.e)/\(∀(i:tyN) (t:EH),tw[i]?=some t->t.fin<E.b->i<n)/\∀(j m:tyN),k<j->ns[j]?=some m->n<=m
 |[],[],p,last,h=>⟨rfl,λk E h=>by simp at h⟩
 |[],n::ns,p,last,h=>h.elim
 |E::es,[],p,last,h=>h.elim
 |E::es,n::ns,p,last,h=>by
  obtain⟨h1,h2,h3,h4,h5,h6⟩:=h;obtain⟨g1,g2⟩:=h6.facts;refine⟨by simpa using g1,λk F hF=>?_⟩
  have later:∀(j m:tyN),0<j->(n::ns)[j]?=some m->n<=m:=λj m hj hm=>by
   obtain⟨i,rfl⟩:∃i,j=i+1:=⟨j-1,J⟩;have hm':ns[i]?=some m:=by simpa using hm
   have hi:i<es.length:=by have:=(Be.1 hm').1;omega
   obtain⟨m',q1,q2,_⟩:=g2 i _ (gG hi);rw[hm']at q1;cases q1;exact q2
  cases k with
  |zero=>
   simp at hF;subst hF;exact⟨n,rfl,h1,h2,by show some (E.res last)=_;rw[h3],h4,h5,later⟩
  |succ k=>
   obtain⟨m,q1,q2,q3,q4,q5,q6,q7⟩:=g2 k F (Cw hF)
   exact⟨m,by simpa using q1,J,q3,by show(FB.Yg _ es)[k]?=_;exact q4,q5,q6,λj m' hj hm=>by
    obtain⟨i,rfl⟩:∃i,j=i+1:=⟨j-1,J⟩
    exact q7 i m' J (Cw hm)⟩
theorem Bk.Uf{f:AD->Op Int}{rg:Int->Prop}{N:tyN}:∀{U:List Ch} {lo:tyN} {σ:Int->Int},Bk f rg N lo σ U->∀c w,w∈EU c U->lo<w.b/\w.b<w.e
 |[],lo,σ,h,c,w,hw=>by cases hw
 |u::U,lo,σ,h,c,w,hw=>by
  obtain⟨h1,h2,h3,h4,h5,h6,h7⟩:=h;rw[Fl]at hw;have hl:=Seq.A7 h2;rcases Cs.1 hw with hw|hw
  .obtain⟨it,hit,e⟩:=bu.1 hw;cases it with
   |note k p=>cases e
   |acc a b e' x=>
    have hs:=Seq.acc h2 hit;unfold QC at e;dsimp only at e;split at e
    .cases e;dsimp only;omega
    .cases e
  .have:=Bk.Uf h7 c w hw;omega
theorem tD{b lo:tyI}(hlo:0<=lo/\lo+4<=32768){rg:Int->Prop}(hr2:rg (lo+2))(hr3:rg (lo+3)){N:tyN}:∀(U:List Ch) {lo':tyN} {σ:Int->Int} {r last:tyI},Bk (Ix b lo) rg N lo' σ U->σ (lo+2)=r->σ (lo+3)=last->(r=0\/r=1)->
  (∀u,u∈U->u.a.1=1)->(∀(p q:tyN) (y:tyI),TL (b+1) U p q y->q<N->y=0\/y=1)->
  ∃(es:List FB) (D P:List Ch),U=D++P/\es.length=D.length/\Et lo' r es/\(∀(k:tyN) (u:Ch),D[k]?=some u->∃E,es[k]?=some E/\E.b=u.fb/\E.e=u.e N/\E.e<N/\u.res=(FB.Yg last es)[k]?)/\
   (∀u,u∈P->∀x,u.res=some x->N<=u.e N)/\EU (b+2) U=es.flatMap FB.IE++EU (b+2) P/\(∀w,w∈EU (b+2) P->∀E,E∈es->E.e<w.b)/\
   (∀E,E∈es->(∀v,v∈E.vr->TL b U v.b v.e v.x/\v.e<N/\v.b<v.e)/\∀v,v∈E.wr->TL (b+1) U v.b v.e v.x/\v.e<N)
 |[],lo',σ,r,last,h,hr,hl,hrb,hu,hy=>⟨[],[],[],rfl,rfl,trivial,λk u h=>by simp at h,λu h=>by(cases h),rfl,λw h=>by(cases h),λE h=>by(cases h)⟩
 |u::U,lo',σ,r,last,h,hr,hl,hrb,hu,hy=>by
  have hfull:=h;obtain⟨h1,h2,h3,h4,⟨o,h5,h5'⟩,h6,h7⟩:=h;have hlr:Ac u.l (lo+2)=r:=(h4 _ hr2).trans hr;have hll:Ac u.l (lo+3)=last:=(h4 _ hr3).trans hl;unfold Ix at h5;rw[AK (hu u (.head _))]at h5
  have hstop:(∀w,w∈u::U->∀x,w.res=some x->N<=w.e N)->∃(es:List FB) (D P:List Ch),u::U=D++P/\es.length=D.length/\Et lo' r es/\(∀(k:tyN) (w:Ch),D[k]?=some w->∃E,es[k]?=some E/\E.b=w.fb/\E.e=w.e N/\E.e<N/\w.res=(FB.Yg last es)[k]?)/\
   (∀w,w∈P->∀x,w.res=some x->N<=w.e N)/\EU (b+2) (u::U)=es.flatMap FB.IE++EU (b+2) P/\(∀w,w∈EU (b+2) P->∀E,E∈es->E.e<w.b)/\
   (∀E,E∈es->(∀v,v∈E.vr->TL b (u::U) v.b v.e v.x/\v.e<N/\v.b<v.e)/\∀v,v∈E.wr->TL (b+1) (u::U) v.b v.e v.x/\v.e<N):=λhp=>
   ⟨[],[],u::U,rfl,rfl,trivial,λk u h=>by simp at h,hp,rfl,λw _ E h=>by(cases h),λE h=>by(cases h)⟩
  cases hres:u.res with
  |none=>
   have hU:=h6 hres;subst hU
   exact hstop λw hw x hx=>by
    rw[Bq]at hw;subst hw;rw[hres]at hx;cases hx
  |some v=>
   have ho:=h5' v hres;subst ho;rcases CR (AM u.lo u.its) N with hlt|hge
   rotate_left
   .refine hstop λw hw x hx=>?_
    rcases BJ.1 hw with rfl|hw
    .unfold Ch.e;rw[hx];exact hge
    .have:∀{AF:List Ch} {lo1:tyN} {σ1:Int->Int},Bk (Ix b lo) rg N lo1 σ1 AF->N<=lo1->∀w,w∈AF->∀x,w.res=some x->N<=w.e N:=λ{AF}=>by
      induction AF with
      |nil=>intro lo1 σ1 _ _ w hw;cases hw
      |cons v AF ih=>
       intro lo1 σ1 hV hN w hw x hx;rcases BJ.1 hw with rfl|hw
       .unfold Ch.e;rw[hx];exact DB (DB hN hV.1) (Seq.A7 hV.2.1)
       .exact ih hV.2.2.2.2.2.2 (DB (DB hN hV.1) (Seq.A7 hV.2.1)) w hw x hx
     exact this h7 hge w hw x hx
   have hue:u.e N=AM u.lo u.its:=by unfold Ch.e;rw[hres]
   have more:∀(E:FB) (r' last':tyI),FB.last last E=last'->E.res last=v->E.b=u.fb->E.e=AM u.lo u.its->Ac u.l' (lo+2)=r'->Ac u.l' (lo+3)=last'->(r'=0\/r'=1)->(∀es,Et (AM u.lo u.its) r' es->Et lo' r (E::es))->
     u.its.filterMap (QC (b+2))=E.IE->(∀w,w∈E.vr->Item.acc (1,b,0) w.b w.e w.x∈u.its)->(∀w,w∈E.wr->Item.acc (1,b+1,0) w.b w.e w.x∈u.its)->
     ∃(es:List FB) (D P:List Ch),u::U=D++P/\es.length=D.length/\Et lo' r es/\(∀(k:tyN) (w:Ch),D[k]?=some w->∃E,es[k]?=some E/\E.b=w.fb/\E.e=w.e N/\E.e<N/\w.res=(FB.Yg last es)[k]?)/\
      (∀w,w∈P->∀x,w.res=some x->N<=w.e N)/\EU (b+2) (u::U)=es.flatMap FB.IE++EU (b+2) P/\(∀w,w∈EU (b+2) P->∀E,E∈es->E.e<w.b)/\
      (∀E,E∈es->(∀v,v∈E.vr->TL b (u::U) v.b v.e v.x/\v.e<N/\v.b<v.e)/\∀v,v∈E.wr->TL (b+1) (u::U) v.b v.e v.x/\v.e<N):=λE r' last' m1 m2 m3 m4 m5 m6 m7 m8 m9 m10 m11=>by
    obtain⟨es,D,P,q1,q2,q3,q4,q5,q6,q7,q8⟩:=tD hlo hr2 hr3 U (r:=r') (last:=last') h7 m5 m6 m7 (λw hw=>hu w (.tail _ hw)) λp q y ⟨w,hw,hm⟩=>hy p q y ⟨w,.tail _ hw,hm⟩
    refine⟨E::es,u::D,P,by rw[q1];rfl,by simpa using q2,m8 es q3,λk w hw=>?_,q5,?_,λw hw F hF=>?_,λF hF=>?_⟩
    .cases k with
     |zero=>
      simp at hw;subst hw;exact⟨E,rfl,m3,by rw[hue,m4],by rw[m4];exact hlt,by rw[hres];show some v=some (E.res last);rw[m2]⟩
     |succ k=>
      obtain⟨F,g1,g2,g3,g4,g5⟩:=q4 k w (Cw hw);exact⟨F,by simpa using g1,g2,g3,g4,by rw[g5];show(FB.Yg last' es)[k]?=(FB.Yg (E.last last) es)[k]?;rw[m1]⟩
    .rw[Fl,m9,q6];exact(Jt _ _ _).symm
    .rcases BJ.1 hF with rfl|hF
     .rw[m4];have hwU:w∈EU (b+2) U:=by rw[q6];exact LF _ hw
      exact(Bk.Uf h7 _ w hwU).1
     .exact q7 w hw F hF
    .rcases BJ.1 hF with rfl|hF
     .exact⟨λw hw=>⟨⟨u,.head _,m10 w hw⟩,by have:=Seq.acc h2 (m10 w hw);omega,(Seq.acc h2 (m10 w hw)).2.1⟩,λw hw=>⟨⟨u,.head _,m11 w hw⟩,by have:=Seq.acc h2 (m11 w hw);omega⟩⟩
     .obtain⟨g1,g2⟩:=q8 F hF;exact⟨λw hw=>by obtain⟨⟨w',k1,k2⟩,k3⟩:=g1 w hw;exact⟨⟨w',.tail _ k1,k2⟩,k3⟩,λw hw=>by obtain⟨⟨w',k1,k2⟩,k3⟩:=g2 w hw;exact⟨⟨w',.tail _ k1,k2⟩,k3⟩⟩
   obtain⟨b1,e1,y1,hc⟩:=mb hlo h5;rw[hlr,hll]at hc;rcases hc with⟨hL,hy1,hv,hl'⟩|⟨hy1,b2,e2,x,b3,e3,y3,T,b4,e4,z,b5,e5,y5,r',hT,hr',hg2,hc⟩
   .rw[hL]at h2;refine more (.e1 ⟨b1,e1,y1⟩) r last rfl hv.symm (by unfold Ch.fb;rw[hL];rfl) (by rw[hL];rfl) (by rw[hl'];exact hlr) (by rw[hl'];exact hll) hrb (λes hes=>⟨Ro h1 h2.1,h2.2.1,hy1,by rw[hL]at hes;exact hes⟩) (by rw[hL,Dh,Fv];rfl) (λw hw=>by(cases hw)) λw hw=>?_
    rw[Bq.1 hw,hL];simp
   .have hs:=h2
    have hy3:y3=0\/y3=1:=hy b3 e3 y3 ⟨u,.head _,by rcases hc with⟨hL,_⟩|⟨_,_,_,hL,_⟩<;>rw[hL]<;>simp⟩ (by
     have:Item.acc (1,b+1,0) b3 e3 y3∈u.its:=by rcases hc with⟨hL,_⟩|⟨_,_,_,hL,_⟩<;>rw[hL]<;>simp
     have:=Seq.acc h2 this
     omega)
    have sH:r'=y3:=by
     rw[hr'];split
     .rename_i e;exact e.symm
     .rename_i e;rw[Hq hrb];exact TO hrb hy3 e
    have hturn:∃rw',(∀lo1 rest,Seq lo1 (T++rest)->lo1<lo1+1->∃lo2,Seq lo2 rest/\∀hi,(∀p,rest≠[]->lo2<p->True)->lo2<hi->pV r y3 lo1 hi rw')/\T.filterMap (QC (b+2))=RA y3 rw':=by
     rcases hT with⟨zP,e2'⟩|⟨zP,p,q,xx,e2'⟩
     .subst e2';exact⟨none,λlo1 rest hS _=>⟨lo1,hS,λhi _ hh=>⟨zP,hh⟩⟩,rfl⟩
     .subst e2';refine⟨some (p,q),λlo1 rest hS _=>⟨q,hS.2.2,λhi _ hh=>⟨zP,hS.1,hS.2.1,hh⟩⟩,?_⟩;rw[Dh,No,AK rfl,Hq hrb];rw[TO hrb hy3 zP];rfl
    obtain⟨rw',t1,t2⟩:=hturn;rcases hc with⟨hL,hy5,hv,hl3⟩|⟨b6,e6,z6,hL,hy5,hv,hl3⟩
    .rw[hL]at hs;obtain⟨s1,s2,s3,s4,s5,s6,s7⟩:=hs;obtain⟨lo2,s8,s9⟩:=t1 _ _ s7 (I7 _);have hlast:AM u.lo u.its=e5:=by rw[hL];show AM e3 (T++_)=_;rw[AY];rfl
     refine more (.e5 ⟨b1,e1,y1⟩ ⟨b2,e2,x⟩ ⟨b3,e3,y3⟩ rw' ⟨b4,e4,z⟩ ⟨b5,e5,y5⟩) y3 z rfl hv.symm (by unfold Ch.fb;rw[hL];rfl) hlast.symm (by rw[hg2,sH]) hl3 hy3 (λes hes=>?_) ?_ (λw hw=>?_) λw hw=>?_
     .rw[hlast]at hes;exact⟨⟨Ro h1 s1,s2,s3,s4,s5,s6⟩,hy1,s9 b4 (λ_ _ _=>trivial) s8.1,⟨s8.2.1,s8.2.2.1,s8.2.2.2.1⟩,hy5.trans sH,hes⟩
     .rw[hL,Dh,Fv,Dh,Fv,Dh,Fv,Po,t2,Dh,Fv,Dh,Fv];exact Jc _
     .rw[hL];have:w=⟨b2,e2,x⟩\/w=⟨b4,e4,z⟩:=by simpa[FB.vr]using hw
      rcases this with rfl|rfl<;>simp
     .rw[hL];have:w=⟨b1,e1,y1⟩\/w=⟨b3,e3,y3⟩\/w=⟨b5,e5,y5⟩:=by simpa[FB.wr]using hw
      rcases this with rfl|rfl|rfl<;>simp
    .rw[hL]at hs;obtain⟨s1,s2,s3,s4,s5,s6,s7⟩:=hs;obtain⟨lo2,s8,s9⟩:=t1 _ _ s7 (I7 _);have hlast:AM u.lo u.its=e6:=by rw[hL];show AM e3 (T++_)=_;rw[AY];rfl
     refine more (.e7 ⟨b1,e1,y1⟩ ⟨b2,e2,x⟩ ⟨b3,e3,y3⟩ rw' ⟨b4,e4,z⟩ ⟨b5,e5,y5⟩ ⟨b6,e6,z6⟩) y3 z6 rfl hv.symm (by unfold Ch.fb;rw[hL];rfl) hlast.symm (by rw[hg2,sH]) hl3 hy3 (λes hes=>?_) ?_ (λw hw=>?_) λw hw=>?_
     .rw[hlast]at hes;exact⟨⟨Ro h1 s1,s2,s3,s4,s5,s6⟩,hy1,s9 b4 (λ_ _ _=>trivial) s8.1,⟨s8.2.1,s8.2.2.1,s8.2.2.2.1⟩,λe=>hy5 (e.trans sH.symm),⟨s8.2.2.2.2.1,s8.2.2.2.2.2.1⟩,hes⟩
     .rw[hL,Dh,Fv,Dh,Fv,Dh,Fv,Po,t2,Dh,Fv,Dh,Fv,Dh,Fv];exact Jc _
     .rw[hL];have:w=⟨b2,e2,x⟩\/w=⟨b4,e4,z⟩\/w=⟨b6,e6,z6⟩:=by simpa[FB.vr]using hw
      rcases this with rfl|rfl|rfl<;>simp
     .rw[hL];have:w=⟨b1,e1,y1⟩\/w=⟨b3,e3,y3⟩\/w=⟨b5,e5,y5⟩:=by simpa[FB.wr]using hw
      rcases this with rfl|rfl|rfl<;>simp
theorem Et.be:∀{es:List FB} {lo:tyN} {r:tyI},Et lo r es->∀E,E∈es->lo<E.b/\E.b<E.e
 |[],lo,r,h,E,hE=>by cases hE
 | .e1 w1::es,lo,r,h,E,hE=>by
  obtain⟨h1,h2,h3,h4⟩:=h;rcases BJ.1 hE with rfl|hE
  .exact⟨h1,h2⟩
  .have:=h4.be E hE;exact⟨J,this.2⟩
 | .e5 w1 v2 w3 rw' v4 w5::es,lo,r,h,E,hE=>by
  obtain⟨h1,h2,h3,h4,h5,h6⟩:=h
  have hm:w3.e<v4.b:=by cases rw' with
   |none=>exact h3.2
   |some p=>have:=h3.2;omega
  rcases BJ.1 hE with rfl|hE
  .exact⟨h1.1,by show w1.b<w5.e;omega⟩
  .have:=h6.be E hE;exact⟨J,this.2⟩
 | .e7 w1 v2 w3 rw' v4 w5 v6::es,lo,r,h,E,hE=>by
  obtain⟨h1,h2,h3,h4,h5,h5',h6⟩:=h
  have hm:w3.e<v4.b:=by cases rw' with
   |none=>exact h3.2
   |some p=>have:=h3.2;omega
  rcases BJ.1 hE with rfl|hE
  .exact⟨h1.1,by show w1.b<v6.e;omega⟩
  .have:=h6.be E hE;exact⟨J,this.2⟩
theorem Et.tail{E:FB}{es:List FB}{lo:tyN}{r:tyI}(h:Et lo r (E::es)):∃r',Et E.e r' es:=by
 cases E with
 |e1 w1=>exact⟨_,h.2.2.2⟩
 |e5 w1 v2 w3 rw' v4 w5=>exact⟨_,h.2.2.2.2.2⟩
 |e7 w1 v2 w3 rw' v4 w5 v6=>exact⟨_,h.2.2.2.2.2.2⟩
theorem Et.sort:∀{es:List FB} {lo:tyN} {r:tyI},Et lo r es->∀(j k:tyN) (E F:FB),j<k->es[j]?=some E->es[k]?=some F->E.e<F.b
 |[],lo,r,h,j,k,E,F,hjk,hE,hF=>by simp at hE
 |G::es,lo,r,h,j,k,E,F,hjk,hE,hF=>by
  obtain⟨r',h2⟩:=h.tail;obtain⟨k,rfl⟩:∃i,k=i+1:=⟨k-1,J⟩;have hF':es[k]?=some F:=by simpa using hF
  cases j with
  |zero=>simp at hE;subst hE;exact(h2.be F (BI hF')).1
  |succ j=>exact h2.sort j k E F J (Cw hE) hF'
theorem UH{U:List Ch}(h:(U.map (Ch.wr N))[k]?=some w):∃u,U[k]?=some u/\w=u.wr N:=by
 rw[BY]at h;cases e:U[k]? with
 |none=>rw[e]at h;cases h
 |some u=>rw[e]at h;cases h;exact⟨u,rfl,rfl⟩
theorem lV(hlo:0<=lo/\lo+4<=32768)(hrg:∀i,lo<=i->i<lo+4->rg i){lo1 lo2:tyN}{σ1 σ2:Int->Int}{Uw Ur:List Ch}
  (hw:Bk (Ix b lo) rg N lo1 σ1 Uw) (hs1:∀i,lo<=i->i<lo+4->σ1 i=0) (hwk:∀u,u∈Uw->u.a.1=2/\(u.a.2.2=0\/u.a.2.2=1)/\Ac u.l lo≠u.a.2.2/\u.a.2.1=b/\u.its≠[])
  (hr:Bk (Ix b lo) rg N lo2 σ2 Ur) (hs2:∀i,lo<=i->i<lo+4->σ2 i=0) (QG:∀u,u∈Ur->u.a.1=1)
  (hV:ZX N (EU b Uw) (TL b Ur)) (hW:ZX N (EU (b+1) Uw) (TL (b+1) Ur)) (hR:ZX N (EU (b+2) Ur) (TL (b+2) Uw)):
  ∃f,SW (Uw.map (Ch.wr N)) (B6 N Ur) f:=by
 classical
 obtain⟨tw,t1,t2,t3,t4,t5,t6,t7⟩:=tS hlo (hrg _ J J) (hrg _ J J) Uw hw (hs1 lo J J) (hs1 (lo+1) J J) (.inl rfl) (.inl rfl) hwk λrb re y h1 h2=>hR.bit rb re y h1 h2
 obtain⟨es,D,P,q1,q2,q3,q4,q5,q6,q7,q8⟩:=tD hlo (hrg _ J J) (hrg _ J J) Ur hr (hs2 (lo+2) J J) (hs2 (lo+3) J J) (.inl rfl) QG λp q y h1 h2=>hW.bit p q y h1 h2
 have hT:=t1.ok
 have halt:∀k,k<=(EU b Uw).length->EI (EU b Uw) k=((k%2:tyN):tyI):=λk hk=>by
  cases k with
  |zero=>rfl
  |succ k=>
   have hk':k<Uw.length:=J;have hu:Uw[k]?=some Uw[k]:=gG hk';obtain⟨ve,hv⟩:=t5 k _ hu;rw[Bz hv,t7 k _ hu];dsimp only;split<;>omega
 obtain⟨idx,hidx⟩:∃idx:RV->Nat,∀v,(∃n,P8 (EU b Uw) v n)->P8 (EU b Uw) v (idx v):=⟨λv=>if h:∃n,P8 (EU b Uw) v n then Classical.choose h else 0,λv h=>by
  show P8 _ v (if h:∃n,P8 (EU b Uw) v n then Classical.choose h else 0)
  rw[IG h];exact Cg h⟩
 obtain⟨ns,hns⟩:=QR hT (IE:=EU (b+2) Ur) (λj t ht=>hR.exact _ _ _ (t3 t (BI ht)).1 (t3 t (BI ht)).2) (pr:=EU (b+2) P) (idx:=idx) es (c:=0) (nl:=0) (np:=0) (sb:=0) (last:=0) q3
  (λE hE=>⟨λv hv=>hidx v (by
   obtain⟨g1,g2,g3⟩:=(q8 E hE).1 v hv;exact hV.idx hT.sort (λw hw=>(t1.low w hw).2) halt g1 g2 g3),λw hw=>t1.uu (by
   obtain⟨g1,g2⟩:=(q8 E hE).2 w hw;rw[<-t2]
   exact hW.exact _ _ _ g1 g2)⟩)
  (λE hE w hw=>q7 w hw E hE)
  {ym:=by rw[List.drop_zero,q6]
   gS:=DV _
   val:=rfl
   nle:=DV _
   ahead:=λk w _ h=>J
   behind:=λk w _ h=>J
   wA:=DV _
   old:=λj w h=>J
   bit:=rfl
   le:=A9 _
   prev:= .inl rfl
   same:= .inl rfl}
 obtain⟨n1,n2⟩:=hns.facts
 have hD:∀(k:tyN) (u:Ch),D[k]?=some u->∃(E:FB) (n:tyN),es[k]?=some E/\ns[k]?=some n/\E.b=u.fb/\E.e=u.e N/\E.e<N/\u.res=some ((n%2:tyN):tyI):=λk u hu=>by
  obtain⟨E,g1,g2,g3,g4,g5⟩:=q4 k u hu;obtain⟨n,k1,k2,k3,k4,k5⟩:=n2 k E g1;exact⟨E,n,g1,k1,g2,g3,g4,by rw[g5,k4]⟩
 obtain⟨f,hf⟩:=tE D.length (λk=>(D.getD k ⟨(0,0,0),0,[],[],[],none⟩).fb) (λk=>ns.getD k 0) λi j hij hj=>by
  have hi:D[i]?=some D[i]:=gG J;have hj':D[j]?=some D[j]:=gG hj;obtain⟨E,n,g1,_,g2,_⟩:=hD i _ hi;obtain⟨F,m,k1,_,k2,_⟩:=hD j _ hj';have:=q3.sort i j E F hij g1 k1;have:=(q3.be E (BI g1)).2;rw[gD,gD,hi,hj'];show Ch.fb D[i]≠Ch.fb D[j];omega
 have hrd:∀(p q:tyN) (x:tyI),B6 N Ur p q x->∃(k:tyN) (u:Ch) (E:FB) (n:tyN),D[k]?=some u/\es[k]?=some E/\ns[k]?=some n/\E.b=p/\E.e=q/\x=((n%2:tyN):tyI)/\f p=n/\q<N:=λp q x ⟨u,h1,h2,h3,h4,h5⟩=>by
  have hu:u∈D:=by
   rw[q1]at h1;rcases Cs.1 h1 with h1|h1
   .exact h1
   .have:=q5 u h1 x h4;omega
  obtain⟨k,hk,e⟩:=Dj hu;have hk':D[k]?=some u:=by rw[gG hk,e]
  obtain⟨E,n,g1,g2,g3,g4,g5,g6⟩:=hD k u hk';have:=hf k hk;rw[gD,gD,hk',g2]at this;have KK:f u.fb=n:=this;rw[h4]at g6;exact⟨k,u,E,n,hk',g1,g2,g3.trans h2,g4.trans h3,El g6,by rw[<-h2];exact KK,h5⟩
 refine⟨f,λp q x h=>?_,λp q x h=>?_,λp q x h i w hw' hlt=>?_,λp q x h i w hw' hlt=>?_,λp q x p' q' x' h h' hlt=>?_⟩
 .obtain⟨k,u,E,n,g1,g2,g3,g4,g5,g6,g7,g8⟩:=hrd p q x h;obtain⟨m,k1,_,k3,_⟩:=n2 k E g2;rw[g3]at k1;cases k1;rw[g7,Ca,<-t4];exact k3
 .obtain⟨k,u,E,n,g1,g2,g3,g4,g5,g6,g7,g8⟩:=hrd p q x h;obtain⟨m,k1,_,k3,_⟩:=n2 k E g2;rw[g3]at k1;cases k1;rw[g7,g6];cases n with
  |zero=>rfl
  |succ i=>
   have hi:Uw[i]?=some Uw[i]:=gG J;rw[Bz (w:=(Uw[i]).wr N) (by rw[BY,hi];rfl)];have:=t7 i _ hi;show _=(Uw[i]).a.2.2;rw[this];split<;>omega
 .obtain⟨k,u,E,n,g1,g2,g3,g4,g5,g6,g7,g8⟩:=hrd p q x h;obtain⟨m,k1,_,k3,k4,k5,_⟩:=n2 k E g2;rw[g3]at k1;cases k1;obtain⟨v,hv,rfl⟩:=UH hw';obtain⟨ve,dg⟩:=t5 i v hv;have:=k5 i _ dg J;show v.fb<q;dsimp only at this;omega
 .obtain⟨k,u,E,n,g1,g2,g3,g4,g5,g6,g7,g8⟩:=hrd p q x h;obtain⟨m,k1,_,k3,k4,k5,k6,_⟩:=n2 k E g2;rw[g3]at k1;cases k1;obtain⟨v,hv,rfl⟩:=UH hw';have hlt':v.e N<p:=hlt;have:=(q3.be E (BI g2)).2;obtain⟨t,ht,htf⟩:=t6 i v hv J;rw[g7];exact k6 i t ht J
 .obtain⟨k,u,E,n,g1,g2,g3,g4,g5,g6,g7,g8⟩:=hrd p q x h;obtain⟨k',u',E',n',g1',g2',g3',g4',g5',g6',g7',g8'⟩:=hrd p' q' x' h';have b1:=(q3.be E (BI g2)).2;have b2:=(q3.be E' (BI g2')).2;rw[g7,g7'];rcases Fq k k' with e|e|e
  .obtain⟨m,k1,_,_,_,_,_,k7⟩:=n2 k E g2;rw[g3]at k1;cases k1;exact k7 k' n' e g3'
  .subst e;rw[g3]at g3';cases g3';exact A9 _
  .have:=q3.sort k' k E' E e g2' g2;omega
def Fx (P:List (WR×Bool))(n:tyN):Nat:=((P.take n).filter (·.2)).length
theorem F8{n:tyN}{p:WR×Bool}(h:P[n]?=some p):Fx P (n+1)=Fx P n+if p.2 then 1 else 0:=by
 unfold Fx;rw[vE,h,pI,IV,Gx];cases e:p.2<;>simp[e]
theorem Nl{n:tyN}(h:P[n]?=some (w,true)):((P.filter (·.2)).map (·.1))[Fx P n]?=some w:=by
 have hn:=(Be.1 h).1;have e:P=P.take n++P[n]::P.drop (n+1):=by rw[AAc,vY]
 have e2:P[n]=(w,true):=by rw[gG hn]at h;exact El h
 unfold Fx;rw[e2]at e
 conv=>lhs;lhs;rw[e]
 rw[IV,I2 (by rfl),Gu,Gb (by rw[Ca];exact A9 _),Ca,VN];rfl
theorem Oh:∀{m n:tyN},m<=n->n<=P.length->Fx P m<=Fx P n:=λ{m n} hmn hn=>by
 induction n with
 |zero=>obtain rfl:m=0:=J
        exact A9 _
 |succ n ih=>
  rcases CR m (n+1)with h|h
  .rw[F8 (gG (show n<P.length by omega))];exact DB (ih J J) (qz _ _)
  .obtain rfl:m=n+1:=J;exact A9 _
theorem La(P:List (WR×Bool)):Fx P P.length=((P.filter (·.2)).map (·.1)).length:=by
 unfold Fx;rw[IR,Ca]
theorem Va(h:(P.map (·.1))[k]?=some w):∃q,P[k]?=some (w,q):=by
 rw[BY]at h;cases e:P[k]? with
 |none=>rw[e]at h;cases h
 |some p=>rw[e]at h;cases h;exact⟨p.2,rfl⟩
theorem GP{p:WR×Bool}(h:P[k]?=some p):(P.map (·.1))[k]?=some p.1:=by rw[BY,h];rfl
theorem cu:∀n,n<=P.length->(∀k w,k<n->P[k]?=some (w,false)->w.v=EI (P.map (·.1)) k)->EI (P.map (·.1)) n=EI ((P.filter (·.2)).map (·.1)) (Fx P n):=λn=>by
 induction n with
 |zero=>intro _ _;rfl
 |succ n ih=>
  intro hn hv;have hp:P[n]?=some P[n]:=gG J;obtain⟨⟨w,q⟩,hq⟩:∃p,P[n]=p:=⟨_,rfl⟩;rw[hq]at hp;rw[Bz (GP hp),F8 hp];cases q with
  |true=>
   rw[AK rfl,Bz (Nl hp)]
  |false=>
   rw[AI Az,LB,<-ih J λk w hk=>hv k w J];exact hv n w (I7 n) hp
theorem Ym(T:tyN):∀(ws:List (WR×Bool)),(∀(j k:tyN) (s w:WR×Bool),j<k->ws[j]?=some s->ws[k]?=some w->s.1.e<=w.1.b)->(∀w,w∈ws->w.1.b<=w.1.e)->∃n,n<=ws.length/\(∀j w,j<n->ws[j]?=some w->w.1.e<T)/\∀j w,n<=j->ws[j]?=some w->T<=w.1.e
 |[],_,_=>⟨0,A9 _,λj w hj=>J,λj w _ h=>by simp at h⟩
 |w::ws,hs,hv=>by
  obtain⟨n,h1,h2,h3⟩:=Ym T ws (λj k s u hj hs' hu=>hs (j+1) (k+1) s u J hs' hu) λu hu=>hv u (.tail _ hu)
  rcases CR w.1.e T with h|h
  .refine⟨n+1,by simpa using h1,λj u hj hu=>?_,λj u hj hu=>?_⟩
   .cases j with
    |zero=>simp at hu;subst hu;exact h
    |succ j=>exact h2 j u J (Cw hu)
   .cases j with
    |zero=>omega
    |succ j=>exact h3 j u J (Cw hu)
  .refine⟨0,DV _,λj u hj=>J,λj u _ hu=>?_⟩;cases j with
   |zero=>simp at hu;subst hu;exact h
   |succ j=>
    have h4:=hs 0 (j+1) w u J rfl hu;have h5:=hv u (BI hu);omega
structure VF (P:List (WR×Bool))(m b e n:tyN):Prop where
 le:n<=P.length
 Gw:Fx P n=m
 ahead:∀k p,P[k]?=some p->k<n->p.1.b<e
 behind:∀k p,P[k]?=some p->p.1.e<b->k<n
theorem Ya{m b e:tyN}(hbe:b<e)(hs:∀(j k:tyN) (s w:WR×Bool),j<k->P[j]?=some s->P[k]?=some w->s.1.e<=w.1.b)(hw:∀w,w∈P->w.1.b<=w.1.e)(hm:m<=((P.filter (·.2)).map (·.1)).length)
  (ha:∀k w,((P.filter (·.2)).map (·.1))[k]?=some w->k<m->w.b<e) (hb:∀k w,((P.filter (·.2)).map (·.1))[k]?=some w->w.e<b->k<m):∃n,VF P m b e n:=by
 obtain⟨n2,g1,g2,g3⟩:=Ym b P hs hw
 have e2:Fx P n2<=m:=by
  have:∀n,n<=n2->Fx P n<=m:=λn=>by
   induction n with
   |zero=>intro _;exact DV _
   |succ n ih=>
    intro hn;have hp:P[n]?=some P[n]:=gG J;obtain⟨⟨w,q⟩,hq⟩:∃p,P[n]=p:=⟨_,rfl⟩;rw[hq]at hp;rw[F8 hp];have h1:=ih J;cases q with
    |true=>
     have:=hb _ _ (Nl hp) (g2 n _ J hp);simp;omega
    |false=>simpa using h1
  exact this n2 (A9 _)
 have grow:∀d n,n2+d=n->n<=P.length->Fx P n<=m->(n=n2\/∃w,P[n-1]?=some (w,true))\/True:=λ_ _ _ _ _=> .inr trivial
 have key:∀d n,n+d=P.length->n2<=n->Fx P n<=m->(Fx P n=m->n=n2\/∃w,n2<n/\P[n-1]?=some (w,true))->∃n',n2<=n'/\n'<=P.length/\Fx P n'=m/\(n'=n2\/∃w,n2<n'/\P[n'-1]?=some (w,true)):=λd=>by
  induction d with
  |zero=>
   intro n h1 h2 h3 h4;have:n=P.length:=J;have h5:Fx P n=m:=by rw[this,La]at h3|-;omega
   exact⟨n,h2,J,h5,h4 h5⟩
  |succ d ih=>
   intro n h1 h2 h3 h4;by_cases h5:Fx P n=m
   .exact⟨n,h2,J,h5,h4 h5⟩
   .have hp:P[n]?=some P[n]:=gG J;obtain⟨⟨w,q⟩,hq⟩:∃p,P[n]=p:=⟨_,rfl⟩;rw[hq]at hp;have h6:=F8 hp;refine ih (n+1) J J (by rw[h6];split<;>omega) λh7=> .inr ?_
    cases q with
    |true=>exact⟨w,J,by rw[Nat.add_sub_cancel];exact hp⟩
    |false=>rw[h6]at h7;simp at h7;exact absurd h7 h5
 obtain⟨n,k1,k2,k3,k4⟩:=key (P.length-n2) n2 J (A9 _) e2 λ_=> .inl rfl
 refine⟨n,k2,k3,λk p hp hk=>?_,λk p hp hlt=>?_⟩
 .rcases CR k n2 with h|h
  .have:=g2 k p h hp;have:=hw p (BI hp);omega
  .rcases k4 with k4|⟨w,k5,k6⟩
   .omega
   .have h8:=F8 k6;rw[show n-1+1=n by omega]at h8;have h9:=ha _ w (Nl k6) (by simp at h8;omega);rcases CR k (n-1)with h10|h10
    .have:=hs k (n-1) p _ h10 hp k6;have:=hw p (BI hp);dsimp only at*;omega
    .have:k=n-1:=J;subst this;rw[hp]at k6;cases k6;exact h9
 .rcases CR k n2 with h|h
  .omega
  .have:=g3 k p h hp;omega
theorem SW.pad{rd:Nat->Nat->Int->Prop}{f:Nat->Nat}(h:SW ((P.filter (·.2)).map (·.1)) rd f)(hbe:∀b e x,rd b e x->b<e/\e<N)
  (hv:∀k w,P[k]?=some (w,false)->w.v=EI (P.map (·.1)) k\/N<=w.b) (hs:∀(j k:tyN) (s w:WR×Bool),j<k->P[j]?=some s->P[k]?=some w->s.1.e<=w.1.b) (hw:∀w,w∈P->w.1.b<=w.1.e)
  (nY:∀b e x e' x',rd b e x->rd b e' x'->e=e'):∃f',SW (P.map (·.1)) rd f':=by
 classical
 have ex:∀b e x,rd b e x->∃n,VF P (f b) b e n:=λb e x hr=>Ya (hbe b e x hr).1 hs hw (h.le b e x hr) (h.ahead b e x hr) (h.behind b e x hr)
 have least:∀b e x,rd b e x->∃n,VF P (f b) b e n/\∀m,VF P (f b) b e m->n<=m:=λb e x hr=>by
  obtain⟨n,hn⟩:=ex b e x hr
  induction n using Nat.strongRecOn with
  |ind n ih=>
   by_cases hm:∃m,m<n/\VF P (f b) b e m
   .obtain⟨m,h1,h2⟩:=hm;exact ih m h1 h2
   .exact⟨n,hn,λm hm'=>by
     rcases CR m n with g|g
     .exact absurd ⟨m,g,hm'⟩ hm
     .exact g⟩
 obtain⟨f',hf'⟩:∃f':Nat->Nat,∀b e x,rd b e x->VF P (f b) b e (f' b)/\∀m,VF P (f b) b e m->f' b<=m:=by
  have all:∀b,∃n,∀e x,rd b e x->VF P (f b) b e n/\∀m,VF P (f b) b e m->n<=m:=λb=>by
   by_cases hb:∃e x,rd b e x
   .obtain⟨e,x,hr⟩:=hb;obtain⟨n,hn⟩:=least b e x hr;exact⟨n,λe' x' hr'=>by rw[nY b e' x' e x hr' hr];exact hn⟩
   .exact⟨0,λe x hr=>absurd ⟨e,x,hr⟩ hb⟩
  exact⟨λb=>Classical.choose (all b),λb e x hr=>Cg (all b) e x hr⟩
 refine⟨f',λb e x hr=>?_,λb e x hr=>?_,λb e x hr k w hk hlt=>?_,λb e x hr k w hk hlt=>?_,λb e x b' e' x' hr hr' hlt=>?_⟩
 .rw[Ca];exact(hf' b e x hr).1.le
 .have hp:=(hf' b e x hr).1;rw[h.val b e x hr,cu _ hp.le λk w hk hkw=>?_,hp.Gw];rcases hv k w hkw with g|g
  .exact g
  .have:=hp.ahead k _ hkw hk;have:=(hbe b e x hr).2;dsimp only at*;omega
 .obtain⟨q,hq⟩:=Va hk;exact(hf' b e x hr).1.ahead k _ hq hlt
 .obtain⟨q,hq⟩:=Va hk;exact(hf' b e x hr).1.behind k _ hq hlt
 .obtain⟨g1,g2⟩:=hf' b e x hr;obtain⟨g3,g4⟩:=hf' b' e' x' hr';rcases CR (f' b') (f' b)with hlt2|hge
  .have hm:=h.mono b e x b' e' x' hr hr' hlt;have he:=Oh (P:=P) (BP hlt2) g1.le;rw[g1.Gw,g3.Gw]at he;have hbe1:=(hbe b e x hr).1;exact g2 _ ⟨g3.le,by rw[g3.Gw];omega,λk p hp hk=>g1.ahead k p hp J,λk p hp hk=>g3.behind k p hp J⟩
  .exact hge
structure Em where
 v:Int
 p:Int
 i:Int
 yb:Nat
 ye:Nat
 db:Nat
 de:Nat
 sb:Nat
 se:Nat
 lb:Nat
 le:Nat
structure He where
 p:Int
 i:Int
 x:Int
 lb:Nat
 le:Nat
 rb:Nat
 re:Nat
 sb:Nat
 se:Nat
 db:Nat
 de:Nat
def JT:Em:=⟨0,0,0,0,0,0,0,0,0,0,0⟩
def Ui:He:=⟨0,0,0,0,0,0,0,0,0,0,0⟩
def Nu (q:tyI)(os:List Em):Nat->Int
 |0=>0
 |n+1=>if(os.getD n JT).p=q then(os.getD n JT).i else Nu q os n
def Dq (q:tyI)(os:List Em):Nat->Nat
 |0=>0
 |n+1=>if(os.getD n JT).p=q then n+1 else Dq q os n
def mB (os:List Em):Nat->Int
 |0=>0
 |n+1=>(os.getD n JT).p
def Xs (rs:List He):Nat->Int
 |0=>0
 |n+1=>(rs.getD n Ui).p
def U1 (q i:tyI)(os:List Em):Nat->Int
 |0=>0
 |n+1=>if(os.getD n JT).p=q/\(os.getD n JT).i=i then(os.getD n JT).v else U1 q i os n
theorem Ai{α:Type}{l:List α}{x d:α}(h:l[k]?=some x):l.getD k d=x:=by rw[gD,h];rfl
theorem QP{os:List Em}{o:Em}(h:os[k]?=some o):mB os (k+1)=o.p:=by
 show(os.getD k JT).p=_;rw[Ai h]
theorem OB{rs:List He}{o:He}(h:rs[k]?=some o):Xs rs (k+1)=o.p:=by
 show(rs.getD k Ui).p=_;rw[Ai h]
theorem YC(q:tyI)(os:List Em):∀n,Dq q os n<=n
 |0=>A9 _
 |n+1=>by
  unfold Dq;split
  .exact A9 _
  .exact UI (YC q os n)
theorem R5{q:tyI}{os:List Em}:∀{n k:tyN},k<n->(os.getD k JT).p=q->k<Dq q os n
 |n+1,k,h,hp=>by
  unfold Dq;split
  .exact h
  .rename_i hn;rcases CR k n with g|g
   .exact R5 g hp
   .obtain rfl:k=n:=J;exact absurd hp hn
theorem QQ{q:tyI}{os:List Em}:∀{n m:tyN},Dq q os n=m+1->(os.getD m JT).p=q/\m<n
 |n+1,m,h=>by
  unfold Dq at h;split at h
  .rename_i hp;obtain rfl:n=m:=J;exact⟨hp,I7 _⟩
  .have:=QQ h;exact⟨this.1,J⟩
theorem TG{q i:tyI}{os:List Em}:∀n,Nu q os n=i->U1 q i os n=match Dq q os n with
  |0=>U1 q i os 0
  |m+1=>(os.getD m JT).v
 |0,h=>rfl
 |n+1,h=>by
  unfold Nu at h;unfold U1 Dq;by_cases hp:(os.getD n JT).p=q
  .rw[AK hp]at h|-;rw[AK ⟨hp,h⟩]
  .rw[AI hp]at h|-;rw[AI (λe=>hp e.1)];exact TG n h
structure VY (N:tyN)(os:List Em)(rs:List He)(P6 lam sig:Nat->Nat):Prop where
 pw:∀(k:tyN) (o:Em),os[k]?=some o->(o.p=0\/o.p=1)/\(o.i=0\/o.i=1)
 pr:∀(j:tyN) (r:He),rs[j]?=some r->(r.p=0\/r.p=1)/\(r.i=0\/r.i=1)
 ow:∀(k:tyN) (o:Em),os[k]?=some o->o.yb<o.ye/\o.ye<o.db/\o.db<o.de/\o.de<=o.sb/\o.sb<=o.se/\o.se<=o.lb/\o.lb<=o.le
 nw:∀(j:tyN) (k:tyN) (o:Em) (o':Em),j<k->os[j]?=some o->os[k]?=some o'->o.le<o'.yb
 or':∀(j:tyN) (r:He),rs[j]?=some r->r.lb<r.le/\r.le<=r.rb/\r.rb<=r.re/\r.re<=r.sb/\r.sb<=r.se/\r.se<=r.db/\r.db<=r.de
 nr:∀(j:tyN) (k:tyN) (r:He) (r':He),j<k->rs[j]?=some r->rs[k]?=some r'->r.de<r'.lb
 turn:∀(k:tyN) (o:Em),os[k]?=some o->o.p=1-Xs rs (P6 k)/\o.i=1-Nu o.p os k
 rle:∀(k:tyN) (o:Em),os[k]?=some o->P6 k<=rs.length
 ra:∀(k:tyN) (o:Em) (j:tyN) (r:He),os[k]?=some o->rs[j]?=some r->j<P6 k->r.rb<o.ye
 rb:∀(k:tyN) (o:Em) (j:tyN) (r:He),os[k]?=some o->rs[j]?=some r->r.re<o.yb->j<P6 k
 rm:∀(j:tyN) (k:tyN) (o:Em) (o':Em),j<k->os[j]?=some o->os[k]?=some o'->P6 j<=P6 k
 lle:∀(j:tyN) (r:He),rs[j]?=some r->lam j<=os.length
 lv:∀(j:tyN) (r:He),rs[j]?=some r->r.p=mB os (lam j)
 la:∀(j:tyN) (r:He) (k:tyN) (o:Em),rs[j]?=some r->os[k]?=some o->k<lam j->o.lb<r.le
 lb:∀(j:tyN) (r:He) (k:tyN) (o:Em),rs[j]?=some r->os[k]?=some o->o.le<r.lb->k<lam j
 lm:∀(j:tyN) (k:tyN) (r:He) (r':He),j<k->rs[j]?=some r->rs[k]?=some r'->lam j<=lam k
 sle:∀(j:tyN) (r:He),rs[j]?=some r->r.se<N->sig j<=os.length
 sv:∀(j:tyN) (r:He),rs[j]?=some r->r.se<N->r.i=Nu r.p os (sig j)
 sa:∀(j:tyN) (r:He) (k:tyN) (o:Em),rs[j]?=some r->r.se<N->os[k]?=some o->o.p=r.p->k<sig j->o.sb<r.se
 sb:∀(j:tyN) (r:He) (k:tyN) (o:Em),rs[j]?=some r->r.se<N->os[k]?=some o->o.p=r.p->o.se<r.sb->k<sig j
 sm:∀(j:tyN) (k:tyN) (r:He) (r':He),j<k->rs[j]?=some r->rs[k]?=some r'->r'.se<N->r.p=r'.p->sig j<=sig k
 dx:∀(j:tyN) (r:He),rs[j]?=some r->r.de<N->∀(n:tyN),n<=os.length->(∀(k:tyN) (o:Em),k<n->os[k]?=some o->o.p=r.p->o.i=r.i->o.de<r.db)->(∀(k:tyN) (o:Em),n<=k->os[k]?=some o->o.p=r.p->o.i=r.i->r.de<o.db)->r.x=U1 r.p r.i os n
section
variable {N:tyN}{os:List Em}{rs:List He}{P6 lam sig:Nat->Nat}
theorem VY.apart(h:VY N os rs P6 lam sig){r:He}(hr:rs[j]?=some r)(hN:r.de<N):r.x=U1 r.p r.i os (sig j):=by
 have o1:=h.or' j r hr;refine h.dx j r hr hN _ (h.sle j r hr J) (λk o hk ho hp hi=>?_) λk o hk ho hp hi=>?_
 .have:=h.sa j r k o hr J ho hp hk;have:=h.ow k o ho;omega
 .rcases CR r.de o.db with g|g
  .exact g
  exfalso;have t1:=(h.turn k o ho).2;have hv:=h.sv j r hr J
  have key:∀m,sig j<=m->m<=k->Nu r.p os m=r.i\/∃k1 o1,sig j<=k1/\k1<m/\os[k1]?=some o1/\o1.p=r.p:=λm=>by
   induction m with
   |zero=>
    intro h1 _;have:sig j=0:=J;rw[this]at hv;exact .inl hv.symm
   |succ m ih=>
    intro h1 h2;rcases CR m (sig j)with g1|g1
    .have:sig j=m+1:=J;rw[this]at hv;exact .inl hv.symm
    .have hm:m<os.length:=by have:=(Be.1 ho).1;omega
     have hm':os[m]?=some os[m]:=gG hm;by_cases hq:(os[m]).p=r.p
     .exact .inr ⟨m,_,g1,I7 _,hm',hq⟩
     .rcases ih g1 J with g2|⟨k1,o1,q1,q2,q3,q4⟩
      .left
       unfold Nu;rw[Ai hm',AI hq];exact g2
      .exact .inr ⟨k1,o1,q1,J,q3,q4⟩
  rcases key k hk (A9 _)with g2|⟨k1,o1,q1,q2,q3,q4⟩
  .rw[hp,g2,hi]at t1;have:=(h.pr j r hr).2;omega
  .have s1:r.sb<=o1.se:=by
    rcases CR o1.se r.sb with g3|g3
    .have:=h.sb j r k1 o1 hr J q3 q4 g3;omega
    .exact g3
   have n1:=h.nw k1 k o1 o q2 q3 ho;have w1:=h.ow k1 o1 q3;have w2:=h.ow k o ho;have r1:=h.rb k o j r ho hr J;have t2:=(h.turn k o ho).1;rcases CR (j+1) (P6 k)with g4|g4
   .have hl:j+1<rs.length:=by have:=h.rle k o ho;omega
    have hj:rs[j+1]?=some rs[j+1]:=gG hl;have:=h.ra k o (j+1) _ ho hj g4;have:=h.nr j (j+1) r _ (I7 _) hr hj;have:=h.or' (j+1) _ hj;omega
   .have:P6 k=j+1:=J;rw[this]at t2;have e:Xs rs (j+1)=r.p:=OB hr;rw[e]at t2;have:=(h.pr j r hr).1;omega
structure AE2 (os:List Em)(rs:List He)(P6 lam:Nat->Nat)(a j k:tyN)(ra rj:He)(o:Em):Prop where
 lt:a<j
 ha:rs[a]?=some ra
 hj:rs[j]?=some rj
 ho:os[k]?=some o
 pa:o.p=ra.p
 pj:ra.p≠rj.p
 lam:lam j<=k
 P6:P6 k<=a
theorem VY.AAt(h:VY N os rs P6 lam sig):∀(k a j:tyN) (ra rj:He) (o:Em),¬AE2 os rs P6 lam a j k ra rj o:=λk=>by
 induction k using Nat.strongRecOn with
 |ind k ih=>
  intro a j ra rj o b;have l1:=h.lm a j ra rj b.lt b.ha b.hj;have va:=h.lv a ra b.ha;have vj:=h.lv j rj b.hj;have l2:=h.lle j rj b.hj;have hne:lam a≠lam j:=λe=>b.pj (by rw[va,vj,e])
  obtain⟨m,hm⟩:∃m,lam j=m+1:=⟨lam j-1,J⟩;have hmo:os[m]?=some os[m]:=gG J;rw[hm]at vj;have pm:(os[m]).p=rj.p:=by rw[vj];exact(QP hmo).symm
  have mk:m<k:=by have:=b.lam;omega
  have r1:=h.rm m k _ o mk hmo b.ho;have t1:=(h.turn k o b.ho).1;have t2:=(h.turn m _ hmo).1;have p1:=(h.pr a ra b.ha).1;have p2:=(h.pr j rj b.hj).1;have b1:=b.pa;have b2:=b.pj;have hne2:P6 m≠P6 k:=λe=>by rw[e]at t2;omega
  obtain⟨c,hc⟩:∃c,P6 k=c+1:=⟨P6 k-1,J⟩;have S2:c<a:=by have:=b.P6;omega
  have AGB:c<rs.length:=by have:=(Be.1 b.ha).1;omega
  have hcl:rs[c]?=some rs[c]:=gG AGB
  have hcp:(rs[c]).p=rj.p:=by
   have e:Xs rs (c+1)=(rs[c]).p:=OB hcl;rw[hc,e]at t1;omega
  exact ih m mk c a _ ra _ ⟨S2,hcl,b.ha,hmo,by rw[pm,hcp],by rw[hcp];exact λe=>b2 e.symm,J,J⟩
theorem VY.reads(h:VY N os rs P6 lam sig){r:He}(hr:rs[j]?=some r)(hN:r.de<N):
  Dq r.p os (sig j)<=os.length/\r.x=(match Dq r.p os (sig j)with|0=>0|m+1=>(os.getD m JT).v)/\(∀k o,os[k]?=some o->k<Dq r.p os (sig j)->o.yb<r.de)/\(∀k o,os[k]?=some o->o.le<r.lb->k<Dq r.p os (sig j))/\lam j<=Dq r.p os (sig j):=by
 have o1:=h.or' j r hr;have s1:=h.sle j r hr J;have hq:=YC r.p os (sig j)
 have ACB:lam j<=Dq r.p os (sig j):=by
  cases e:lam j with
  |zero=>exact DV _
  |succ m=>
   have G8:m<os.length:=by have:=h.lle j r hr;omega
   have hm:os[m]?=some os[m]:=gG G8;have v:=h.lv j r hr;rw[e]at v;have pm:(os[m]).p=r.p:=by rw[v];exact(QP hm).symm
   have:=h.la j r m _ hr hm J;have w:=h.ow m _ hm;exact R5 (h.sb j r m _ hr J hm pm J) (by rw[Ai hm];exact pm)
 refine⟨J,?_,λk o ho hk=>?_,λk o ho hlt=>?_,ACB⟩
 .rw[h.apart hr hN,TG _ (h.sv j r hr J).symm];cases Dq r.p os (sig j)<;>rfl
 .obtain⟨m,hm⟩:∃m,Dq r.p os (sig j)=m+1:=⟨Dq r.p os (sig j)-1,J⟩;obtain⟨g1,g2⟩:=QQ hm;have hmo:os[m]?=some os[m]:=gG J;rw[Ai hmo]at g1;have:=h.sa j r m _ hr J hmo g1 g2;have:=h.ow m _ hmo;have:=h.ow k o ho;rcases CR k m with g|g
  .have:=h.nw k m o _ g ho hmo;omega
  .obtain rfl:k=m:=J;rw[hmo]at ho;cases ho;omega
 .have:=h.lb j r k o hr ho hlt;omega
theorem VY.mono(h:VY N os rs P6 lam sig){a:tyN}{ra rj:He}(haj:a<j)(ha:rs[a]?=some ra)(hj:rs[j]?=some rj)(hN:rj.de<N):Dq ra.p os (sig a)<=Dq rj.p os (sig j):=by
 rcases CR (Dq rj.p os (sig j)) (Dq ra.p os (sig a))with g|g
 rotate_left
 .exact g
 exfalso;have n1:=h.nr a j ra rj haj ha hj;have oa:=h.or' a ra ha;have oj:=h.or' j rj hj;obtain⟨k,hk⟩:∃k,Dq ra.p os (sig a)=k+1:=⟨Dq ra.p os (sig a)-1,J⟩;obtain⟨g1,g2⟩:=QQ hk;have s1:=h.sle a ra ha J;have hko:os[k]?=some os[k]:=gG J;rw[Ai hko]at g1;obtain⟨_,_,_,_,ACB⟩:=h.reads hj hN;by_cases hp:ra.p=rj.p
 .have:=h.sm a j ra rj haj ha hj J hp;have:=R5 (q:=rj.p) (os:=os) (n:=sig j) (k:=k) J (by rw[Ai hko,g1,hp]);omega
 .refine h.AAt k a j ra rj _ ⟨haj,ha,hj,hko,g1,hp,J,?_⟩;have t:=(h.turn k _ hko).1;have w:=h.ow k _ hko;have s2:=h.sa a ra k _ ha J hko g1 g2;rcases CR a (P6 k)with g3|g3
  rotate_left
  .exact g3
  exfalso;rcases CR (a+1) (P6 k)with g4|g4
  .have hl:a+1<rs.length:=by have:=h.rle k _ hko;omega
   have ha1:rs[a+1]?=some rs[a+1]:=gG hl;have:=h.ra k _ (a+1) _ hko ha1 g4;have:=h.nr a (a+1) ra _ (I7 _) ha ha1;have:=h.or' (a+1) _ ha1;omega
  .have:P6 k=a+1:=J;rw[this]at t;have e:Xs rs (a+1)=ra.p:=OB ha;rw[e,g1]at t;have:=(h.pr a ra ha).1;omega
end
structure G1 (f:Nat->AD->Op Int)(A:Nat->AD->Nat->Nat->Int->Prop)(N:tyN)(cells rg:Int->Prop)(U:Nat->List Ch):Prop where
 uses:∀t:Nat,Bk (f t) rg N 0 (λ_=>0) (U t)
 inl:∀(t:tyN) (u:Ch),u∈U t->∀(a:AD) (b e:tyN) (x:tyI),Item.acc a b e x∈u.its->A t a b e x
 Rm:∀(t:tyN) (a:AD) (b e:tyN) (x:tyI),A t a b e x->cells a.2.1->∃u,u∈U t/\Item.acc a b e x∈u.its
abbrev Wu (f:AD->Op Int)(A:Nat->AD->Nat->Nat->Int->Prop)(N:tyN)(cells rg:Int->Prop)(U:Nat->List Ch):Prop:=G1 (λ_=>f) A N cells rg U
theorem Bk.fn{f f':AD->Op Int}{rg:Int->Prop}{N:tyN}:∀{U:List Ch} {lo:tyN} {σ:Int->Int},Bk f rg N lo σ U->(∀u,u∈U->f u.a=f' u.a)->Bk f' rg N lo σ U
 |[],lo,σ,h,hf=>trivial
 |u::U,lo,σ,h,hf=>⟨h.1,h.2.1,h.2.2.1,h.2.2.2.1,by rw[<-hf u (.head _)];exact h.2.2.2.2.1,h.2.2.2.2.2.1,Bk.fn h.2.2.2.2.2.2 λw hw=>hf w (.tail _ hw)⟩
theorem G1.fn{f f':Nat->AD->Op Int}(h:G1 f A N cells rg U)(hf:∀t u,u∈U t->f t u.a=f' t u.a):G1 f' A N cells rg U:=
 ⟨λt=>(h.uses t).fn (hf t),h.inl,h.Rm⟩
theorem DE.path{α:Type}{f:AD->Op Int}{o o':Op α}{l l':tyL}{lo:tyN}{L:List Item}{K:List Ch}(h:DE f o l lo L K o' l'):∀u,u∈K->∃o1,Path (f u.a) u.l u.its o1 u.l':=by
 induction h with
 |nil=>intro u hu;cases hu
 |get _ ih=>exact ih
 |set _ ih=>exact ih
 |live _ ih=>exact ih
 |note p _ ih=>exact ih
 |ask h1 _ ih=>
  intro u hu;rcases BJ.1 hu with rfl|hu
  .exact⟨_,h1⟩
  .exact ih u hu
 |stop h1=>
  intro u hu;rw[Bq]at hu;subst hu;exact⟨_,h1⟩
theorem G1.parts{T g:Nat->AD->Op Int}(hg:∀t a x,g t a≠ .ret x){RG:Int->Prop}(h:G1 (λt a=>(T t a).sub (g t)) A N cells RG U):
  ∃W:Nat->List (Ch×List Ch),(∀t,(W t).map Prod.fst=U t)/\(∀t u K,(u,K)∈W t->u∈U t/\∃o' l',DE (g t) (T t u.a) u.l u.lo u.its K o' l'/\∀v,u.res=some v->o'= .ret v/\l'=u.l')/\
   ∀(cs rg:Int->Prop) (on:AD->Bool),(∀c,cs c->cells c)->(∀i,rg i->RG i/\0<=i/\i<32768)->(∀t u,u∈U t->(∀i,rg i->(T t u.a).keeps i)/\(T t u.a).all λa=>on a=false->(∀i,rg i->(g t a).keeps i)/\(g t a).all λa'=> ¬cs a'.2.1)->
    G1 g A N cs rg λt=>((W t).flatMap Prod.snd).filter λu=>on u.a:=by
 have hp:=λt=>Bk.parts (hg t) (h.uses t)
 refine⟨λt=>Classical.choose (hp t),λt=>(Cg (hp t)).1,λt u K hm=>?_,λcs rg on hcs hrg hT=>?_⟩
 .obtain⟨w1,w2,_⟩:=Cg (hp t);refine⟨?_,w2 u K hm⟩;have:u∈(Classical.choose (hp t)).map Prod.fst:=Cd.2 ⟨_,hm,rfl⟩;rwa[w1]at this
 .refine⟨λt=>?_,λt u hu a b e x hm=>?_,λt a b e x hA hc=>?_⟩
  .obtain⟨w1,w2,w3⟩:=Cg (hp t);refine w3 rg on hrg λu hu=>⟨(hT t u hu).1,?_⟩
   have:=(hT t u hu).2;exact all_imp _ this λa q e=>(q e).1
  .obtain⟨w1,w2,w3⟩:=Cg (hp t);obtain⟨⟨v,K⟩,hv,dm⟩:=FZ.1 (Db.1 hu).1;obtain⟨o',l',d,_⟩:=w2 v K hv
   have hvU:v∈U t:=by
    have:v∈(Classical.choose (hp t)).map Prod.fst:=Cd.2 ⟨_,hv,rfl⟩;rwa[w1]at this
   exact h.inl t v hvU a b e x (d.acc.2 ⟨u,dm,hm⟩)
  .obtain⟨w1,w2,w3⟩:=Cg (hp t);obtain⟨v,hv,hm⟩:=h.Rm t a b e x hA (hcs _ hc);obtain⟨⟨v',K⟩,hvK,e1⟩:=Cd.1 (show v∈(Classical.choose (hp t)).map Prod.fst by rw[w1];exact hv);have e2:v'=v:=e1;subst e2;obtain⟨o',l',d,_⟩:=w2 v' K hvK;obtain⟨u,dm,hu⟩:=d.acc.1 hm;refine⟨u,Db.2 ⟨FZ.2 ⟨_,hvK,dm⟩,?_⟩,hu⟩;cases ho:on u.a with
   |true=>rfl
   |false=>
    exfalso;obtain⟨o1,hp1⟩:=d.path u dm;have hq:=d.all (hT t v' hv).2 u dm;exact(hp1.all (hq ho).2).1 a b e x hu hc
 where all_imp {α:Type} {Q R:AD->Prop}:∀(o:Op α),o.all Q->(∀a,Q a->R a)->o.all R
 | .ret _,_,_=>trivial
 | .ask a k,h,hi=>⟨hi a h.1,λx=>all_imp (k x) (h.2 x) hi⟩
 | .get _ k,h,hi=>λx=>all_imp (k x) (h x) hi
 | .set _ _ k,h,hi=>all_imp k h hi
 | .note _ k,h,hi=>all_imp k h hi
 | .live k,h,hi=>λb=>all_imp (k b) (h b) hi
def GH (A:Nat->AD->Nat->Nat->Int->Prop)(N:tyN)(c top:tyI):Prop:=
 (∀t b e x,A t (1,c,0) b e x->e<N->0<=x/\x<=top)/\∀ws:List WR,(∀(j k:tyN) (s w:WR),j<k->ws[j]?=some s->ws[k]?=some w->s.e<w.b)->(∀w,w∈ws->(0<=w.v/\w.v<=top)/\∃t x,A t (2,c,w.v) w.b w.e x)->(∀t v b e x,A t (2,c,v) b e x->(⟨v,b,e⟩:WR)∈ws)->
  ∀t b e x,A t (1,c,0) b e x->e<N->R0 ws ⟨b,e,x⟩/\∀w,w∈ws->w.b≠e
theorem qw{U:List Ch}(h:w∈EU c U):∃u x,u∈U/\Item.acc (2,c,w.v) w.b w.e x∈u.its:=by
 obtain⟨it,h1,h2⟩:=bu.1 h;obtain⟨u,hu,hi⟩:=FZ.1 h1;cases it with
 |note k p=>cases h2
 |acc a b e x=>
  obtain⟨k,c',v⟩:=a;unfold QC at h2;dsimp only at h2;split at h2
  .rename_i q;obtain⟨rfl,rfl⟩:=q;cases h2
   exact⟨u,x,hu,hi⟩
  .cases h2
theorem qV{v:tyI}{U:List Ch}{u:Ch}{b e:tyN}{x:tyI}(hu:u∈U)(h:Item.acc (2,c,v) b e x∈u.its):(⟨v,b,e⟩:WR)∈EU c U:=
 bu.2 ⟨_,FZ.2 ⟨u,hu,h⟩,by rw[No,AK rfl]⟩
theorem Ug{c:tyI}:∀{L:List Item} {lo:tyN},Seq lo L->(∀w,w∈L.filterMap (QC c)->lo<w.b/\w.b<w.e/\w.e<=AM lo L)/\∀(j k:tyN) (s w:WR),j<k->(L.filterMap (QC c))[j]?=some s->(L.filterMap (QC c))[k]?=some w->s.e<w.b
 |[],lo,h=>⟨λw hw=>by(cases hw),λj k s w _ hs=>by simp at hs⟩
 | .note p q::L,lo,h=>by
  obtain⟨h1,h2⟩:=Ug (c:=c) (L:=L) h.2;exact⟨λw hw=>by have:=h1 w hw;have:=h.1;exact⟨J,J,by show w.e<=AM q L;omega⟩,h2⟩
 | .acc a b e x::L,lo,h=>by
  obtain⟨h1,h2⟩:=Ug (c:=c) (L:=L) h.2.2;have hl:=Seq.A7 (L:=L) h.2.2;have hb:=h.1;have he:=h.2.1;rw[Dh];cases ew:QC c (.acc a b e x)with
  |none=>exact⟨λw hw=>by have:=h1 w hw;exact⟨J,J,by show w.e<=AM e L;omega⟩,h2⟩
  |some v=>
   have hv:v.b=b/\v.e=e:=by
    unfold QC at ew;dsimp only at ew;split at ew
    .cases ew;exact⟨rfl,rfl⟩
    .cases ew
   refine⟨λw hw=>?_,λj k s w hjk hs hw=>?_⟩
   .rcases BJ.1 hw with rfl|hw
    .exact⟨J,J,by show w.e<=AM e L;omega⟩
    .have:=h1 w hw;exact⟨J,J,by show w.e<=AM e L;omega⟩
   .obtain⟨k,rfl⟩:∃i,k=i+1:=⟨k-1,J⟩;have hw':(L.filterMap (QC c))[k]?=some w:=by simpa using hw
    cases j with
    |zero=>
     simp at hs;subst hs;have:=h1 w (BI hw');omega
    |succ j=>exact h2 j k s w J (Cw hs) hw'
theorem Bk.Qz{f:AD->Op Int}{rg:Int->Prop}{N:tyN}{c:tyI}:∀{U:List Ch} {lo:tyN} {σ:Int->Int},Bk f rg N lo σ U->∀(j k:tyN) (s w:WR),j<k->(EU c U)[j]?=some s->(EU c U)[k]?=some w->s.e<w.b
 |[],lo,σ,h,j,k,s,w,hjk,hs,hw=>by simp[EU]at hs
 |u::U,lo,σ,h,j,k,s,w,hjk,hs,hw=>by
  obtain⟨h1,h2,h3,h4,h5,h6,h7⟩:=h;obtain⟨g1,g2⟩:=Ug (c:=c) h2;rw[Fl]at hs hw;obtain⟨n,hn⟩:=gX ((u.its.filterMap (QC c)).length);rcases CR j n with a1|a1
  .rw[IC J]at hs;rcases CR k n with a2|a2
   .rw[IC J]at hw;exact g2 j k s w hjk hs hw
   .rw[Gb J]at hw;have:=(g1 s (BI hs)).2.2;have:=(Bk.Uf h7 c w (BI hw)).1;omega
  .rw[Gb J]at hs hw;exact Bk.Qz h7 (j-_) (k-_) s w J hs hw
theorem G1.bit{f:Nat->AD->Op Int}(h:G1 f A N cells rg U){top:tyI}(hc:cells c)(hs:GH A N c top){w:tyN}(hw:∀t u,u∈U t->∀v b e x,Item.acc (2,c,v) b e x∈u.its->t=w/\0<=v/\v<=top):
  ∀r b e x,TL c (U r) b e x->e<N->R0 (EU c (U w)) ⟨b,e,x⟩/\(0<=x/\x<=top)/\∀v,v∈EU c (U w)->v.b≠e:=λr b e x hr he=>by
 obtain⟨u,hu,hm⟩:=hr;have hin:=hs.1 r b e x (h.inl r u hu _ _ _ _ hm) he;refine(λq=>⟨q.1,hin,q.2⟩) (hs.2 (EU c (U w)) (λj k s v=>(h.uses w).Qz j k s v) (λv hv=>?_) (λt v b e x hA=>?_) r b e x (h.inl r u hu _ _ _ _ hm) he)
 .obtain⟨u',x',q1,q2⟩:=qw hv;exact⟨(hw w u' q1 _ _ _ _ q2).2,w,x',h.inl w u' q1 _ _ _ _ q2⟩
 .obtain⟨u',q1,q2⟩:=h.Rm t _ b e x hA hc;have:=(hw t u' q1 _ _ _ _ q2).1;subst this;exact qV q1 q2
def Op.FV {α:Type}(i:tyI)(Q:AD->Prop)(R:Int->Prop):Op α->Int->Prop
 | .ret _,g=>R g
 | .ask a k,g=>R g/\Q a/\∀x,(k x).FV i Q R g
 | .get j k,g=>R g/\∀x,(j=i->x=g)->(k x).FV i Q R g
 | .set j v k,g=>R g/\∀g',(j=i->g'=v)->(j≠i->g'=g)->k.FV i Q R g'
 | .note _ k,g=>R g/\k.FV i Q R g
 | .live k,g=>R g/\∀b,(k b).FV i Q R g
theorem Op.fP{α:Type}{R:Int->Prop}{o:Op α}{g:tyI}(h:o.FV i Q R g):R g:=by
 cases o with
 |ret v=>exact h
 |ask a k=>exact h.1
 |get j k=>exact h.1
 |set j v k=>exact h.1
 |note c k=>exact h.1
 |live k=>exact h.1
theorem Path.FV{α:Type}(hi:0<=i/\i<32768){R:Int->Prop}{o o':Op α}{l l':tyL}{L:List Item}(h:Path o l L o' l'):o.FV i Q R (Ac l i)->(∀a b e x,Item.acc a b e x∈L->Q a)/\R (Ac l' i):=by
 induction h with
 |nil=>exact λh=>⟨λ_ _ _ _ hm=>by(cases hm),Op.fP h⟩
 |get _ ih=>exact λh=>ih (h.2 _ λe=>by rw[e])
 | @set j v k l L o' l' _ ih=>
  intro h;refine ih (h.2 _ (λe=>?_) λe=>?_)
  .rw[CG _ _ _ _ hi,AK e]
  .rw[CG _ _ _ _ hi,AI e]
 |live _ ih=>exact λh=>ih (h.2 _)
 |note p _ ih=>
  intro h;obtain⟨h1,h2⟩:=ih h.2;refine⟨λa b e x hm=>?_,h2⟩;rcases BJ.1 hm with e|hm
  .cases e
  .exact h1 a b e x hm
 |ask b e x _ ih=>
  intro h;obtain⟨h1,h2⟩:=ih (h.2.2 _);refine⟨λa b e x hm=>?_,h2⟩;rcases BJ.1 hm with q|hm
  .cases q;exact h.2.1
  .exact h1 a b e x hm
theorem Bk.FV{f:AD->Op Int}{rg:Int->Prop}{i:tyI}(hi:0<=i/\i<32768)(i5:rg i){Q:AD->Prop}{R:Int->Prop}{N:tyN}:∀{U:List Ch} {lo:tyN} {σ:Int->Int},Bk f rg N lo σ U->R (σ i)->(∀u,u∈U->∀g,R g->(f u.a).FV i Q R g)->∀u,u∈U->∀a b e x,Item.acc a b e x∈u.its->Q a
 |[],lo,σ,h,hR,hf,u,hu,a,b,e,x,hm=>by cases hu
 |v::U,lo,σ,h,hR,hf,u,hu,a,b,e,x,hm=>by
  obtain⟨h1,h2,h3,h4,⟨o,h5,_⟩,h6,h7⟩:=h;obtain⟨g1,g2⟩:=h5.FV hi (hf v (.head _) (Ac v.l i) (by rw[h4 i i5];exact hR));rcases BJ.1 hu with rfl|hu
  .exact g1 a b e x hm
  .exact Bk.FV hi i5 h7 g2 (λw hw=>hf w (.tail _ hw)) u hu a b e x hm
theorem Zo{y z:tyI}{k:Op Int}(h:∀v,Q (2,b+2,v))(hk:k.all Q):(Hs b lo y z k).all Q:=by
 unfold Hs;split
 .exact hk
 .exact λg=>⟨h _,λ_=>hk⟩
theorem gY{x:tyI}(h0:Q (1,b,0))(h1:Q (1,b+1,0)):(KT b lo x).all Q:=by
 refine⟨h0,λv=>⟨h1,λy z=>?_⟩⟩;show Op.all Q (if _ then _ else _);split
 .exact λ_=>trivial
 .exact⟨h0,λ_=>trivial⟩
theorem cB(h0:Q (1,b,0))(h1:Q (1,b+1,0))(h2:∀v,Q (2,b+2,v)):(qM b lo).all Q:=by
 refine⟨h1,λx y=>?_⟩;show Op.all Q (if _ then _ else _);split
 .exact λ_=>trivial
 .exact⟨h0,λx=>⟨h1,λy z=>Zo h2 (gY h0 h1)⟩⟩
theorem dH{b lo β:tyI}(h0:Q (2,b,β))(h1:∀v,Q (2,b+1,v))(h2:Q (1,b+2,0)):(oY b lo β).all Q:=by
 refine⟨h0,λ_ g=>⟨h2,λy=>?_⟩⟩;show Op.all Q (if _ then _ else _);split
 .exact⟨h1 _,λ_=>trivial⟩
 .trivial
theorem NF(h:∀a:AD,b<=a.2.1->a.2.1<b+3->Q a)(a:AD):(Ix b lo a).all Q:=by
 unfold Ix;split
 .exact cB (h _ Az (by dsimp only;omega)) (h _ (by dsimp only;omega) (by dsimp only;omega)) λv=>h _ (by dsimp only;omega) (by dsimp only;omega)
 .exact dH (h _ Az (by dsimp only;omega)) (λv=>h _ (by dsimp only;omega) (by dsimp only;omega)) (h _ (by dsimp only;omega) (by dsimp only;omega))
theorem iD(h:i<lo\/lo+4<=i):(qM b lo).keeps i:=by
 intro x y;show Op.keeps i (if _ then _ else _);split
 .exact λ_=>trivial
 .intro x y z;show Op.keeps i (Hs b lo y z (KT b lo x));unfold Hs
  have he:∀x,(KT b lo x).keeps i:=λx v=>⟨J,λy z=>by
   show Op.keeps i (if _ then _ else _);split
   .exact λ_=>trivial
   .exact λu=>⟨J,trivial⟩⟩
  split
  .exact he x
  .exact λg _=>⟨J,he x⟩
theorem fk{i b lo β:tyI}(h:i<lo\/lo+4<=i):(oY b lo β).keeps i:=by
 refine λ_=>⟨J,λg y=>?_⟩
 show Op.keeps i (if _ then _ else _);split
 .exact λ_=>⟨J,trivial⟩
 .trivial
theorem D8(h:i<lo\/lo+4<=i)(a:AD):(Ix b lo a).keeps i:=by
 unfold Ix;split
 .exact iD h
 .exact fk h
theorem Tt(hlo:0<=lo/\lo+4<=32768)(h:Wu (Ix b lo) A N cells rg U)(hrg:∀i,lo<=i->i<lo+4->rg i)(hcs:∀c,b<=c->c<b+3->cells c){w r:tyN}(hwr:w≠r)
  (hone:∀t,t≠w->t≠r->U t=[]) (hwk:∀u,u∈U w->u.a.1=2/\(u.a.2.2=0\/u.a.2.2=1)/\Ac u.l lo≠u.a.2.2/\u.a.2.1=b/\u.its≠[]) (QG:∀u,u∈U r->u.a.1=1)
  (h0:GH A N b 1) (h1:GH A N (b+1) 1) (h2:GH A N (b+2) 1):∃f,SW ((U w).map (Ch.wr N)) (B6 N (U r)) f:=by
 have dk:∀t u,u∈U t->∃o,Path (Ix b lo u.a) u.l u.its o u.l':=λt=>by
  have:∀{AF:List Ch} {lo1:tyN} {σ:Int->Int},Bk (Ix b lo) rg N lo1 σ AF->∀u,u∈AF->∃o,Path (Ix b lo u.a) u.l u.its o u.l':=λ{AF}=>by
   induction AF with
   |nil=>intro _ _ _ u hu;cases hu
   |cons v AF ih=>
    intro lo1 σ hV u hu;rcases BJ.1 hu with rfl|hu
    .obtain⟨o,q,_⟩:=hV.2.2.2.2.1;exact⟨o,q⟩
    .exact ih hV.2.2.2.2.2.2 u hu
  exact this (h.uses t)
 have nZ:∀t u,u∈U t->∀c v b' e x,Item.acc (2,c,v) b' e x∈u.its->(c=b+2->t=r)/\((c=b\/c=b+1)->t=w)/\(c=b->v=u.a.2.2):=λt u hu c v b' e x hm=>by
  obtain⟨o,hp⟩:=dk t u hu
  have htr:t=w\/t=r:=by
   by_cases e1:t=w
   .exact .inl e1
   by_cases e2:t=r
   .exact .inr e2
   rw[hone t e1 e2]at hu;cases hu
  rcases htr with rfl|rfl
  .have hk:=(hwk u hu).1;unfold Ix at hp;rw[AI (by rw[hk];decide)]at hp;have:=(hp.all (Q:=λa=>a.1=2->a.2.1≠b+2/\(a.2.1=b->a.2.2=u.a.2.2)) (dH (λ_=>⟨by dsimp only;omega,λ_=>rfl⟩) (λv _=>⟨by dsimp only;omega,λe=>by dsimp only at e;omega⟩) (λe=>by cases e))).1 _ _ _ _ hm rfl;exact⟨λe=>absurd e this.1,λ_=>rfl,this.2⟩
  .have hk:=QG u hu;unfold Ix at hp;rw[AK hk]at hp;have:=(hp.all (Q:=λa=>a.1=2->a.2.1=b+2) (cB (λe=>by cases e) (λe=>by cases e) (λv _=>rfl))).1 _ _ _ _ hm rfl;dsimp only at this;exact⟨λ_=>rfl,λe=>J,λe=>J⟩
 have hw1:∀u,u∈U w->∀a b' e x,Item.acc a b' e x∈u.its->a.1=2->0<=a.2.2/\a.2.2<=1:=by
  refine(h.uses w).FV (i:=lo+1) J (hrg _ J J) (R:=λg=>g=0\/g=1) (.inl rfl) λu hu g hg=>?_
  have hk:=hwk u hu;unfold Ix;rw[AI (by rw[hk.1];decide)];refine⟨hg,λ_=>by have:=hk.2.1;dsimp only;omega,λ_=>⟨hg,λg' q1 q2=>?_⟩⟩;have:=q2 J;subst this;refine⟨hg,λy hy=>⟨hg,λe=>(by cases e),λz=>?_⟩⟩;have:=hy rfl;subst this;show Op.FV _ _ _ (if _ then _ else _) _;split
  .refine⟨hg,λ_=>?_,λ_=>⟨hg,λg' q1 q2=>?_⟩⟩
   .show 0<=wrap64 (1-y)/\wrap64 (1-y)<=1;rw[Hq hg];omega
   .show g'=0\/g'=1;rw[q1 rfl,Hq hg];omega
  .exact hg
 have hr1:∀u,u∈U r->∀a b' e x,Item.acc a b' e x∈u.its->a.1=2->0<=a.2.2/\a.2.2<=1:=by
  refine(h.uses r).FV (i:=lo+2) J (hrg _ J J) (R:=λg=>g=0\/g=1) (.inl rfl) λu hu g hg=>?_
  unfold Ix;rw[AK (QG u hu)]
  have hend:∀x g,(g=0\/g=1)->(KT b lo x).FV (lo+2) (λa=>a.1=2->0<=a.2.2/\a.2.2<=1) (λg=>g=0\/g=1) g:=λx g hg=>by
   refine⟨hg,λe=>(by cases e),λv=>⟨hg,λg' q1 q2=>?_⟩⟩;have:=q2 J;subst this;refine⟨hg,λe=>(by cases e),λy=>⟨hg,λz hz=>?_⟩⟩;show Op.FV _ _ _ (if _ then _ else _) _;split
   .exact⟨hg,λ_ _=>hg⟩
   .refine⟨hg,λe=>(by cases e),λu=>⟨hg,λg'' q1 q2=>?_⟩⟩;have:=q2 J;subst this;exact hg
  refine⟨hg,λe=>(by cases e),λx=>⟨hg,λy hy=>?_⟩⟩;show Op.FV _ _ _ (if _ then _ else _) _;split
  .exact⟨hg,λ_ _=>hg⟩
  .refine⟨hg,λe=>(by cases e),λx=>⟨hg,λe=>(by cases e),λy=>⟨hg,λz hz=>?_⟩⟩⟩;show Op.FV _ _ _ (Hs b lo y z (KT b lo x)) _;unfold Hs;split
   .exact hend x g hg
   .refine⟨hg,λq hq=>⟨hg,λ_=>?_,λ_=>⟨hg,λg' q1 q2=>?_⟩⟩⟩
    .have:=hq rfl;subst this;show 0<=wrap64 (1-q)/\wrap64 (1-q)<=1;rw[Hq hg];omega
    .refine hend x g' ?_;have:=hq rfl;subst this;rw[q1 rfl,Hq hg];omega
 have hV:∀t u,u∈U t->∀v b' e x,Item.acc (2,b,v) b' e x∈u.its->t=w/\0<=v/\v<=1:=λt u hu v b' e x hm=>by
  obtain⟨_,q2,q3⟩:=nZ t u hu b v b' e x hm;have ht:=q2 (.inl rfl);subst ht;have:=(hwk u hu).2.1;rw[q3 rfl];exact⟨rfl,J⟩
 have hW:∀t u,u∈U t->∀v b' e x,Item.acc (2,b+1,v) b' e x∈u.its->t=w/\0<=v/\v<=1:=λt u hu v b' e x hm=>by
  have ht:=(nZ t u hu _ v b' e x hm).2.1 (.inr rfl);subst ht;exact⟨rfl,hw1 u hu _ _ _ _ hm rfl⟩
 have hR:∀t u,u∈U t->∀v b' e x,Item.acc (2,b+2,v) b' e x∈u.its->t=r/\0<=v/\v<=1:=λt u hu v b' e x hm=>by
  have ht:=(nZ t u hu _ v b' e x hm).1 rfl;subst ht;exact⟨rfl,hr1 u hu _ _ _ _ hm rfl⟩
 have mk:∀{c:tyI} {w r:tyN},(∀b' e x,TL c (U r) b' e x->e<N->R0 (EU c (U w)) ⟨b',e,x⟩/\(0<=x/\x<=1)/\∀v,v∈EU c (U w)->v.b≠e)->ZX N (EU c (U w)) (TL c (U r)):=λ{c w r} q=>
  ⟨λb' e x h1 h2=>(q b' e x h1 h2).1,λb' e x h1 h2=>by have:=(q b' e x h1 h2).2.1;omega,λb' e x h1 h2=>(q b' e x h1 h2).2.2⟩
 exact lV hlo hrg (h.uses w) (λ_ _ _=>rfl) hwk (h.uses r) (λ_ _ _=>rfl) QG (mk (h.bit (hcs b J J) h0 hV r)) (mk (h.bit (hcs _ J J) h1 hW r)) (mk (h.bit (hcs _ J J) h2 hR w))
end
end Go.Proofs.YtpodgcpkccpnfaaGreat
