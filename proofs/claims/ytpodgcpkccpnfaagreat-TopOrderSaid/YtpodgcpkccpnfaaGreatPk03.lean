import Derived.Test.YtpodgcpkccpnfaaGreatPk02
set_option linter.unusedVariables false
set_option linter.unusedSimpArgs false
set_option maxRecDepth 20000
set_option maxHeartbeats 40000000
namespace Go.Proofs.YtpodgcpkccpnfaaGreat
variable{c x:Int}{l l':List Int}{b e p t:Nat}
section
open Go.RowKit
abbrev AD:=Int×Int×Int
inductive Item:Type where
 |note (k:tyI) (p:tyN):Item
 |acc (a:AD) (b e:tyN) (x:tyI):Item
def Ac (l:tyL)(i:tyI):Int:=(⟨[],l,[],[]⟩:TS).get i
def I4 (l:tyL)(i v:tyI):List Int:=((⟨[],l,[],[]⟩:TS).set i v).loc
variable {α β:Type}
inductive Path:Op α->List Int->List Item->Op α->List Int->Prop where
 |nil (o:Op α) (l:tyL):Path o l [] o l
 |get {i:tyI} {k:Int->Op α} {l:tyL} {L:List Item} {o':Op α} {l':tyL} (h:Path (k (Ac l i)) l L o' l'):Path (.get i k) l L o' l'
 |set {i v:tyI} {k:Op α} {l:tyL} {L:List Item} {o':Op α} {l':tyL} (h:Path k (I4 l i v) L o' l'):Path (.set i v k) l L o' l'
 |live {k:Bool->Op α} {l:tyL} {L:List Item} {o':Op α} {l':tyL} (h:Path (k true) l L o' l'):Path (.live k) l L o' l'
 |note {c:tyI} {k:Op α} {l:tyL} {L:List Item} {o':Op α} {l':tyL} (p:tyN) (h:Path k l L o' l'):Path (.note c k) l (.note c p::L) o' l'
 |ask {a:AD} {k:Int->Op α} {l:tyL} {L:List Item} {o':Op α} {l':tyL} (b e:tyN) (x:tyI) (h:Path (k x) l L o' l'):Path (.ask a k) l (.acc a b e x::L) o' l'
theorem Path.trans{o o1 o2:Op α}{l1 l2:tyL}{L1 L2:List Item}(h:Path o l L1 o1 l1)(k:Path o1 l1 L2 o2 l2):Path o l (L1++L2) o2 l2:=by
 induction h with
 |nil=>exact k
 |get _ ih=>exact .get (ih k)
 |set _ ih=>exact .set (ih k)
 |live _ ih=>exact .live (ih k)
 |note p _ ih=>exact .note p (ih k)
 |ask b e x _ ih=>exact .ask b e x (ih k)
theorem Path.bind{o:Op α}{f:α->Op β}{L:List Item}{o':Op β}(h:Path (o.bind f) l L o' l'):
  (∃o1,o'=o1.bind f/\Path o l L o1 l')\/∃v L1 L2 l1,L=L1++L2/\Path o l L1 (.ret v) l1/\Path (f v) l1 L2 o' l':=by
 induction o generalizing l L with
 |ret v=>exact .inr ⟨v,[],L,l,rfl,.nil _ _,h⟩
 |ask a k ih=>
  cases h with
  |nil=>exact .inl ⟨.ask a k,rfl,.nil _ _⟩
  |ask b e x h=>
   rcases ih x h with⟨o1,h1,h2⟩|⟨v,L1,L2,l1,h1,h2,h3⟩
   .exact .inl ⟨o1,h1,.ask b e x h2⟩
   .exact .inr ⟨v,_::L1,L2,l1,by rw[h1];rfl,.ask b e x h2,h3⟩
 |get i k ih=>
  cases h with
  |nil=>exact .inl ⟨.get i k,rfl,.nil _ _⟩
  |get h=>
   rcases ih _ h with⟨o1,h1,h2⟩|⟨v,L1,L2,l1,h1,h2,h3⟩
   .exact .inl ⟨o1,h1,.get h2⟩
   .exact .inr ⟨v,L1,L2,l1,h1,.get h2,h3⟩
 |set i v k ih=>
  cases h with
  |nil=>exact .inl ⟨.set i v k,rfl,.nil _ _⟩
  |set h=>
   rcases ih h with⟨o1,h1,h2⟩|⟨v,L1,L2,l1,h1,h2,h3⟩
   .exact .inl ⟨o1,h1,.set h2⟩
   .exact .inr ⟨v,L1,L2,l1,h1,.set h2,h3⟩
 |note c k ih=>
  cases h with
  |nil=>exact .inl ⟨.note c k,rfl,.nil _ _⟩
  |note p h=>
   rcases ih h with⟨o1,h1,h2⟩|⟨v,L1,L2,l1,h1,h2,h3⟩
   .exact .inl ⟨o1,h1,.note p h2⟩
   .exact .inr ⟨v,_::L1,L2,l1,by rw[h1];rfl,.note p h2,h3⟩
 |live k ih=>
  cases h with
  |nil=>exact .inl ⟨.live k,rfl,.nil _ _⟩
  |live h=>
   rcases ih _ h with⟨o1,h1,h2⟩|⟨v,L1,L2,l1,h1,h2,h3⟩
   .exact .inl ⟨o1,h1,.live h2⟩
   .exact .inr ⟨v,L1,L2,l1,h1,.live h2,h3⟩
def Op.all (Q:AD->Prop):Op α->Prop
 | .ret _=>True
 | .ask a k=>Q a/\∀x,(k x).all Q
 | .get _ k=> ∀x,(k x).all Q
 | .set _ _ k=>k.all Q
 | .note _ k=>k.all Q
 | .live k=> ∀b,(k b).all Q
theorem Op.JJ{Q:AD->Prop}:∀(o:Op α) (f:α->Op β),o.all Q->(∀v,(f v).all Q)->(o.bind f).all Q
 | .ret v,f,_,h=>h v
 | .ask a k,f,h,h2=>⟨h.1,λx=>Op.JJ (k x) f (h.2 x) h2⟩
 | .get i k,f,h,h2=>λx=>Op.JJ (k x) f (h x) h2
 | .set i v k,f,h,h2=>Op.JJ k f h h2
 | .note c k,f,h,h2=>Op.JJ k f h h2
 | .live k,f,h,h2=>λb=>Op.JJ (k b) f (h b) h2
theorem Path.all{Q:AD->Prop}{o o':Op α}{L:List Item}(h:Path o l L o' l')(hq:o.all Q):(∀a b e x,Item.acc a b e x∈L->Q a)/\o'.all Q:=by
 induction h with
 |nil=>exact⟨λ_ _ _ _ h=>absurd h Az,hq⟩
 |get _ ih=>exact ih (hq _)
 |set _ ih=>exact ih hq
 |live _ ih=>exact ih (hq _)
 |note p _ ih=>
  refine⟨λa b e x h=>?_,(ih hq).2⟩;rcases BJ.1 h with h|h
  .cases h
  .exact(ih hq).1 a b e x h
 |ask b e x _ ih=>
  refine⟨λa b e x h=>?_,(ih (hq.2 _)).2⟩;rcases BJ.1 h with h|h
  .cases h;exact hq.1
  .exact(ih (hq.2 _)).1 a b e x h
def Op.DY (Q:Int->Prop):Op α->Prop
 | .ret _=>True
 | .ask _ k=> ∀x,(k x).DY Q
 | .get _ k=> ∀x,(k x).DY Q
 | .set _ _ k=>k.DY Q
 | .note c k=>Q c/\k.DY Q
 | .live k=> ∀b,(k b).DY Q
theorem Path.DY{Q:Int->Prop}{o o':Op α}{L:List Item}(h:Path o l L o' l')(hq:o.DY Q):(∀k p,Item.note k p∈L->Q k)/\o'.DY Q:=by
 induction h with
 |nil=>exact⟨λ_ _ h=>absurd h Az,hq⟩
 |get _ ih=>exact ih (hq _)
 |set _ ih=>exact ih hq
 |live _ ih=>exact ih (hq _)
 |note p _ ih=>
  refine⟨λk q h=>?_,(ih hq.2).2⟩;rcases BJ.1 h with h|h
  .cases h;exact hq.1
  .exact(ih hq.2).1 k q h
 |ask b e x _ ih=>
  refine⟨λk q h=>?_,(ih (hq _)).2⟩;rcases BJ.1 h with h|h
  .cases h
  .exact(ih (hq _)).1 k q h
def told:List Item->List Int
 |[]=>[]
 | .note _ _::L=>told L
 | .acc _ _ _ x::L=>x::told L
def asks:List Item->List AD
 |[]=>[]
 | .note _ _::L=>asks L
 | .acc a _ _ _::L=>a::asks L
def kinds:List Item->List Int
 |[]=>[]
 | .note k _::L=>k::kinds L
 | .acc _ _ _ _::L=>kinds L
theorem IQ:∀L M,told (L++M)=told L++told M
 |[],M=>rfl
 | .note _ _::L,M=>IQ L M
 | .acc _ _ _ x::L,M=>DJ (x:: ·) (IQ L M)
theorem G6:∀L M,kinds (L++M)=kinds L++kinds M
 |[],M=>rfl
 | .note k _::L,M=>DJ (k:: ·) (G6 L M)
 | .acc _ _ _ _::L,M=>G6 L M
theorem PM:∀L,(asks L).length=(told L).length
 |[]=>rfl
 | .note _ _::L=>PM L
 | .acc _ _ _ _::L=>by simp only[asks,told,Qy,PM L]
theorem Path.BH{o o':Op α}{L:List Item}(h:Path o l L o' l'):
  ∀(pre ys:tyL) (A:List AD) (N:List (Int×Int)),A.length=pre.length->∃N',o.BH ⟨pre++(told L++ys),l,A,N⟩=o'.BH ⟨pre++(told L++ys),l',A++asks L,N++N'⟩/\N'.map Prod.fst=kinds L:=by
 induction h with
 |nil=>intro pre ys A N _;exact⟨[],by simp[asks],rfl⟩
 | @get i k l L o' l' _ ih=>
  intro pre ys A N hA;obtain⟨N',h1,h2⟩:=ih pre ys A N hA;exact⟨N',by rw[<-h1];rfl,h2⟩
 | @set i v k l L o' l' _ ih=>
  intro pre ys A N hA;obtain⟨N',h1,h2⟩:=ih pre ys A N hA;refine⟨N',?_,h2⟩;rw[<-h1];show k.BH (TS.set _ i v)=_;rw[Xu];rfl
 |live _ ih=>
  intro pre ys A N hA;obtain⟨N',h1,h2⟩:=ih pre ys A N hA;exact⟨N',by rw[<-h1];rfl,h2⟩
 | @note c k l L o' l' p _ ih=>
  intro pre ys A N hA;obtain⟨N',h1,h2⟩:=ih pre ys A (N++[(c,(A.length:tyI))]) hA;refine⟨(c,(A.length:tyI))::N',?_,by simp only[Gf,h2,kinds]⟩;show k.BH _=_;rw[Jt]at h1;exact h1
 | @ask a k l L o' l' b e x _ ih=>
  intro pre ys A N hA;obtain⟨N',h1,h2⟩:=ih (pre++[x]) ys (A++[a]) N (by simp[hA]);refine⟨N',?_,h2⟩;have e1:pre++(told (.acc a b e x::L)++ys)=(pre++[x])++(told L++ys):=by simp[told]
  rw[e1];have hlt:A.length<((pre++[x])++(told L++ys)).length:=by rw[hA,Gx,Gx,IN];omega
  have e2:(Op.ask a k).BH ⟨(pre++[x])++(told L++ys),l,A,N⟩=(k ((⟨(pre++[x])++(told L++ys),l,A,N⟩:TS).told)).BH ((⟨(pre++[x])++(told L++ys),l,A,N⟩:TS).asked a):=AK hlt;rw[e2]
  have e3:(⟨(pre++[x])++(told L++ys),l,A,N⟩:TS).told=x:=by
   show((pre++[x])++(told L++ys)).getD A.length 0=x;rw[hA,Jt,gD,Gb (A9 _),VN];rfl
  rw[e3];simp only[TS.asked];rw[h1];simp[asks]
def GN (p:tyN):List Int->List Item
 |[]=>[]
 |k::ks=> .note k p::GN (p+1) ks
theorem Vh(p:tyN):∀ks,told (GN p ks)=[]:=λks=>by
 induction ks generalizing p with
 |nil=>rfl
 |cons k ks ih=>exact ih (p+1)
theorem Sh(p:tyN):∀ks,kinds (GN p ks)=ks:=λks=>by
 induction ks generalizing p with
 |nil=>rfl
 |cons k ks ih=>exact DJ (k:: ·) (ih (p+1))
def qv.op {α:Type}:qv α->Op α
 | .done v=> .ret v
 | .wait a k=> .ask a k
theorem JY:∀(o:Op α) (l:tyL) (p:tyN),Path o l (GN p (o.head l).2.2) (o.head l).1.op (o.head l).2.1
 | .ret v,l,p=> .nil _ _
 | .ask a k,l,p=> .nil _ _
 | .get i k,l,p=> .get (JY _ l p)
 | .set i v k,l,p=> .set (JY k _ p)
 | .note c k,l,p=> .note p (JY k l (p+1))
 | .live k,l,p=> .live (JY _ l p)
def Seq:Nat->List Item->Prop
 |_,[]=>True
 |lo,.note _ p::L=>lo<p/\Seq p L
 |lo,.acc _ b e _::L=>lo<b/\b<e/\Seq e L
def AM:Nat->List Item->Nat
 |lo,[]=>lo
 |_,.note _ p::L=>AM p L
 |_,.acc _ _ e _::L=>AM e L
theorem Seq.append:∀{lo:tyN} {L M:List Item},Seq lo (L++M)↔Seq lo L/\Seq (AM lo L) M
 |lo,[],M=>⟨λh=>⟨trivial,h⟩,λh=>h.2⟩
 |lo,.note k p::L,M=>by
  show(lo<p/\Seq p (L++M))↔(lo<p/\Seq p L)/\_;rw[Seq.append];exact⟨λh=>⟨⟨h.1,h.2.1⟩,h.2.2⟩,λh=>⟨h.1.1,h.1.2,h.2⟩⟩
 |lo,.acc a b e x::L,M=>by
  show(lo<b/\b<e/\Seq e (L++M))↔(lo<b/\b<e/\Seq e L)/\_;rw[Seq.append];exact⟨λh=>⟨⟨h.1,h.2.1,h.2.2.1⟩,h.2.2.2⟩,λh=>⟨h.1.1,h.1.2.1,h.1.2.2,h.2⟩⟩
theorem AY:∀(lo:tyN) (L M:List Item),AM lo (L++M)=AM (AM lo L) M
 |lo,[],M=>rfl
 |lo,.note k p::L,M=>AY p L M
 |lo,.acc a b e x::L,M=>AY e L M
theorem Seq.A7:∀{lo:tyN} {L:List Item},Seq lo L->lo<=AM lo L
 |lo,[],_=>A9 _
 |lo,.note k p::L,h=>DB (BP h.1) (Seq.A7 (L:=L) h.2)
 |lo,.acc a b e x::L,h=>DB (by have:=h.1;have:=h.2.1;omega) (Seq.A7 (L:=L) h.2.2)
theorem Seq.note{lo:tyN}{L:List Item}(h:Seq lo L){k:tyI}(hm:Item.note k p∈L):lo<p/\p<=AM lo L:=by
 induction L generalizing lo with
 |nil=>cases hm
 |cons i L ih=>
  cases i with
  |note k' p'=>
   rcases BJ.1 hm with e|hm
   .cases e;exact⟨h.1,Seq.A7 (L:=L) h.2⟩
   .have:=ih h.2 hm;exact⟨kH h.1 this.1,this.2⟩
  |acc a b e x=>
   rcases BJ.1 hm with e|hm
   .cases e
   .have:=ih h.2.2 hm;exact⟨by have:=h.1;have:=h.2.1;omega,this.2⟩
theorem Seq.acc{lo:tyN}{L:List Item}(h:Seq lo L){a:AD}(hm:Item.acc a b e x∈L):lo<b/\b<e/\e<=AM lo L:=by
 induction L generalizing lo with
 |nil=>cases hm
 |cons i L ih=>
  cases i with
  |note k' p'=>
   rcases BJ.1 hm with e|hm
   .cases e
   .have:=ih h.2 hm;exact⟨kH h.1 this.1,this.2⟩
  |acc a' b' e' x'=>
   rcases BJ.1 hm with e|hm
   .cases e;exact⟨h.1,h.2.1,Seq.A7 (L:=L) h.2.2⟩
   .have:=ih h.2.2 hm;exact⟨by have:=h.1;have:=h.2.1;omega,this.2⟩
inductive What:Type where
 |call|note (k:tyI)|ret (e v:tyI)|halt|Kp (a:AD)|fin (a:AD) (x:tyI)
structure Au where
 now:Nat
 t:Nat
 i:Nat
 w:What
def What.isFin:What->Bool
 | .fin _ _=>true
 |_=>false
def oZ (M:MD)(c v:tyI)(a:Au):Int:=match a.w with
 | .fin (k,cl,u) _=>if k=2/\cl=c then AZ u (M.fresh c).top else v
 |_=>v
def cellAt (M:MD)(H:List Au)(c:tyI)(p:tyN):Int:=(H.take p).foldl (oZ M c) (M.fresh c).value
theorem Bf(M:MD)(H X:List Au)(c:tyI)(h:p<=H.length):cellAt M (H++X) c p=cellAt M H c p:=by
 unfold cellAt;rw[tX h]
theorem LM(M:MD)(H:List Au)(a:Au)(c:tyI):cellAt M (H++[a]) c (H.length+1)=oZ M c (cellAt M H c H.length) a:=by
 unfold cellAt;rw[show H.length+1=(H++[a]).length by simp,IR,IR,cC];rfl
theorem Nt{M:MD}{H:List Au}{q:tyN}(hpq:p<=q)(h:∀i a,p<=i->i<q->H[i]?=some a->∀u x,a.w≠ .fin (2,c,u) x):cellAt M H c q=cellAt M H c p:=by
 induction q with
 |zero=>obtain rfl:p=0:=J
        rfl
 |succ q ih=>
  rcases CR q p with hlt|hge
  .obtain rfl:p=q+1:=J;rfl
  .rw[<-ih hge λi a h1 h2=>h i a h1 J];unfold cellAt;rw[vE];cases e:H[q]? with
   |none=>simp
   |some a=>
    rw[pI,cC];show oZ M c _ a=_;have:=h q a hge J e;unfold oZ;split
    .rename_i k cl u x hw;rw[AI];rintro⟨rfl,rfl⟩;exact this u x hw
    .rfl
theorem Vf{M:MD}{H:List Au}{a:Au}{u:tyI}(he:H[e]?=some a)(hw:a.w= .fin (2,c,u) x)(hep:e<p)(h:∀i a,e<i->i<p->H[i]?=some a->∀u x,a.w≠ .fin (2,c,u) x):
  cellAt M H c p=AZ u (M.fresh c).top:=by
 rw[Nt (p:=e+1) J λi a h1 h2=>h i a J h2];unfold cellAt;rw[vE,he,pI,cC];show oZ M c _ a=_;unfold oZ;rw[hw];simp
def F0 (M:MD)(H:List Au)(c:tyI)(b:tyN)(v:tyI):Prop:=
 ∃q a u,H[q]?=some a/\a.w= .Kp (2,c,u)/\AZ u (M.fresh c).top=v/\(b<q\/(q<b/\∀p a',q<p->p<b->H[p]?=some a'->a'.t=a.t->a'.w.isFin=false))
theorem Bg{H X:List Au}{a:Au}(h:H[p]?=some a):(H++X)[p]?=some a:=by
 rw[IC (Be.1 h).1];exact h
theorem CZ{H X:List Au}{a:Au}(h:(H++X)[p]?=some a)(hp:p<H.length):H[p]?=some a:=by
 rw[IC hp]at h;exact h
theorem NW{H:List Au}{a a':Au}(h:(H++[a])[p]?=some a'):H[p]?=some a'\/p=H.length/\a'=a:=by
 rcases CR p H.length with hp|hp
 .exact .inl (CZ h hp)
 .rw[Gb hp]at h;have h1:=Be.1 h;obtain⟨h1,h2⟩:=h1;simp only[IN]at h1;have:p=H.length:=J;subst this;simp at h2;exact .inr ⟨rfl,h2.symm⟩
theorem F0.grow{M:MD}{H:List Au}(X:List Au){v:tyI}(hb:b<=H.length)(h:F0 M H c b v):F0 M (H++X) c b v:=by
 obtain⟨q,a,u,h1,h2,h3,h4⟩:=h;refine⟨q,a,u,Bg h1,h2,h3,h4.imp id λh=>⟨h.1,λp a' h5 h6 h7=>h.2 p a' h5 h6 (CZ h7 J)⟩⟩
structure vO (M:MD)(H:List Au)(c:tyI)(b:tyN)(a:AD)(C:CS)(pend:Nat->Option (Nat×AD))(x:QA):Prop where
 on:x.on=true
 wr:x.wr=decide (a.1=2)
 val:a.1=2->x.val=AZ a.2.2 (M.fresh c).top
 quiet:a.1=1->x.ov=false->C.value=cellAt M H c b/\∀t b' u,t<8->pend t≠some (b',(2,c,u))
 over:a.1=1->x.ov=true->∃v,F0 M H c b v
 may:a.1=1->C.kind=2->x.may≠[]/\∀v,v∈x.may->v=cellAt M H c b\/F0 M H c b v
structure uw (M:MD)(H:List Au)(c:tyI)(C:CS)(pend:Nat->Option (Nat×AD)):Prop where
 kind:C.kind=(M.fresh c).kind
 top:C.top=(M.fresh c).top
 val:C.value=cellAt M H c H.length
 off:∀t,t<8->(∀b a,pend t=some (b,a)->a.2.1≠c)->(C.B1 t).on=false
 slot:∀t b a,t<8->pend t=some (b,a)->a.2.1=c->vO M H c b a C pend (C.B1 t)
def MX (M:MD)(B:BS)(c:tyI):CS:=(C9 B.u c).getD (M.fresh c)
structure DN (M:MD)(H:List Au)(B:BS)(pend:Nat->Option (Nat×AD)):Prop where
 on:∀t b a,t<8->pend t=some (b,a)->B.by' t=(true,a.2.1)
 off:∀t,t<8->pend t=none->B.by' t=(false,0)
 cell:∀c,uw M H c (MX M B c) pend
 has:∀t b a,t<8->pend t=some (b,a)->∃C,C9 B.u a.2.1=some C
 at':∀t b a,t<8->pend t=some (b,a)->(∃A,H[b]?=some A/\A.t=t/\A.w= .Kp a)/\(a.1=1\/a.1=2)/\∀p A,b<p->H[p]?=some A->A.t=t->A.w.isFin=false
theorem Tg(c:CS):∀m,(BW c m).on=true/\(BW c m).wr=false/\((BW c m).ov=true->∃i,i<m/\(c.B1 i).on=true/\(c.B1 i).wr=true)/\((BW c m).ov=false->∀i,i<m->(c.B1 i).on=true->(c.B1 i).wr=false)/\
  (c.kind=2->(BW c m).may≠[]/\∀v,v∈(BW c m).may->v=c.value\/∃i,i<m/\(c.B1 i).on=true/\(c.B1 i).wr=true/\(c.B1 i).val=v)
 |0=>by
  refine⟨rfl,rfl,λh=>(by cases h),λ_ i hi=>J,λhk=>?_⟩;show(if c.kind=2 then[c.value]else[])≠[]/\∀v,v∈(if c.kind=2 then[c.value]else[])->_;rw[AK hk];exact⟨Az,λv hv=> .inl (Cw hv)⟩
 |m+1=>by
  obtain⟨h1,h2,h3,h4,h5⟩:=Tg c m;unfold BW;by_cases h:(c.B1 m).on=true/\(c.B1 m).wr=true
  .rw[AK h];refine⟨h1,h2,λ_=>⟨m,J,h⟩,λe=>(by cases e),λhk=>?_⟩;show(if c.kind=2 then _ else _)≠[]/\∀v,v∈(if c.kind=2 then _ else _)->_;rw[AK hk];refine⟨Az,λv hv=>?_⟩;rcases Cs.1 hv with hv|hv
   .exact((h5 hk).2 v hv).imp id λ⟨i,q1,q2⟩=>⟨i,J,q2⟩
   .exact .inr ⟨m,J,h.1,h.2,(Bq.1 hv).symm⟩
  .rw[AI h];refine⟨h1,h2,λe=>?_,λe i hi hon=>?_,λhk=>⟨(h5 hk).1,λv hv=>((h5 hk).2 v hv).imp id λ⟨i,q1,q2⟩=>⟨i,J,q2⟩⟩⟩
   .obtain⟨i,q1,q2⟩:=h3 e;exact⟨i,J,q2⟩
   .by_cases e2:i=m
    .subst e2;cases hw:(c.B1 i).wr with
     |false=>rfl
     |true=>exact absurd ⟨hon,hw⟩ h
    .exact h4 e i J hon
theorem cK(c:CS)(v:tyI):∀m,(Ju c v m).kind=c.kind/\(Ju c v m).top=c.top/\(Ju c v m).value=c.value/\
  ∀i,(Ju c v m).B1 i=if i<m/\(c.B1 i).on=true/\(c.B1 i).wr=false then aJ c.kind v (c.B1 i)else c.B1 i
 |0=>⟨rfl,rfl,rfl,λi=>by rw[AI J];rfl⟩
 |m+1=>by
  obtain⟨h1,h2,h3,h4⟩:=cK c v m;have hm:(Ju c v m).B1 m=c.B1 m:=by rw[h4,AI J]
  unfold Ju;rw[hm];by_cases h:(c.B1 m).on=true/\(c.B1 m).wr=false
  .rw[AK h];refine⟨h1,h2,h3,λi=>?_⟩;show(if i=m then _ else(Ju c v m).B1 i)=_;by_cases e:i=m
   .subst e;rw[AK rfl,AK ⟨J,h⟩]
   .rw[AI e,h4];by_cases h5:i<m/\(c.B1 i).on=true/\(c.B1 i).wr=false
    .rw[AK h5,AK ⟨J,h5.2⟩]
    .rw[AI h5,AI (λh6=>h5 ⟨J,h6.2⟩)]
  .rw[AI h];refine⟨h1,h2,h3,λi=>?_⟩;rw[h4];by_cases e:i=m
   .subst e;rw[AI J,AI (λh6=>h h6.2)]
   .by_cases h5:i<m/\(c.B1 i).on=true/\(c.B1 i).wr=false
    .rw[AK h5,AK ⟨J,h5.2⟩]
    .rw[AI h5,AI (λh6=>h5 ⟨J,h6.2⟩)]
theorem R9(d top:tyI)(h:0<=top):0<=Di d top/\Di d top<=top:=by
 unfold Di;obtain⟨c,hc⟩:=gX (BC top 0 1099511627776)
 have h2:0<=c/\c<=top:=by
  rw[<-hc];unfold BC;split
  .omega
  split<;>omega
 rw[hc];have e1:=XZ d (show c+1≠0 by omega);have e2:=Yi d (show 0<c+1 by omega);omega
def CH (pend:Nat->Option (Nat×AD))(t:tyN)(x:Option (Nat×AD)):Nat->Option (Nat×AD):=λi=>if i=t then x else pend i
section
variable {M:MD}{H:List Au}{B:BS}{pend:Nat->Option (Nat×AD)}
theorem DN.lt(h:DN M H B pend){a:AD}(ht:t<8)(hp:pend t=some (b,a)):b<H.length:=by
 obtain⟨⟨A,h1,_⟩,_⟩:=h.at' t b a ht hp;exact(Be.1 h1).1
theorem DN.other(h:DN M H B pend)(A:Au)(h1:A.w.isFin=false):DN M (H++[A]) B pend:=by
 have hv:∀c,cellAt M (H++[A]) c (H++[A]).length=cellAt M H c H.length:=λc=>by
  rw[show(H++[A]).length=H.length+1 by simp,LM];unfold oZ;split
  .rename_i e;rw[e]at h1;cases h1
  .rfl
 refine⟨h.on,h.off,λc=>?_,h.has,λt b a ht hp=>?_⟩
 .have hc:=h.cell c;refine⟨hc.kind,hc.top,hc.val.trans (hv c).symm,hc.off,λt b a ht hp he=>?_⟩;have hs:=hc.slot t b a ht hp he;have hb:=h.lt ht hp;refine⟨hs.on,hs.wr,hs.val,λq1 q2=>?_,λq1 q2=>?_,λq1 q2=>?_⟩
  .rw[Bf M H [A] c (BP hb)];exact hs.quiet q1 q2
  .obtain⟨v,hv⟩:=hs.over q1 q2;exact⟨v,hv.grow [A] (BP hb)⟩
  .refine⟨(hs.may q1 q2).1,λv hv=>?_⟩;rw[Bf M H [A] c (BP hb)];exact((hs.may q1 q2).2 v hv).imp id (F0.grow [A] (BP hb))
 .obtain⟨⟨A',q1,q2⟩,q3,q4⟩:=h.at' t b a ht hp;refine⟨⟨A',Bg q1,q2⟩,q3,λp A2 hb hA e=>?_⟩;rcases NW hA with hA|⟨rfl,rfl⟩
  .exact q4 p A2 hb hA e
  .exact h1
theorem DN.begins(h:DN M H B pend)(ht:t<8)(hp:pend t=none)(k c v:tyI)(now i:tyN)(h0:(B.begin M.many 6 M.fresh t k c v).1=0):
  DN M (H++[⟨now,t,i,.Kp (k,c,v)⟩]) (B.begin M.many 6 M.fresh t k c v).2 (CH pend t (some (H.length,(k,c,v)))):=by
 obtain⟨C,hC⟩:=gX (MX M B c);have Pv:=h.cell c;rw[hC]at Pv;have hby:=h.off t ht hp
 have mp:(B.busy t).2=false:=by
  unfold BS.busy;rw[AI J,Gl,hby]
 have e1:(C9 B.u c).getD (M.fresh c)=C:=hC;have hoff:(C.B1 t).on=false:=Pv.off t ht λb a e=>by rw[hp]at e;cases e
 have hk:k=1\/k=2:=by
  unfold BS.begin at h0;split at h0
  .exact absurd h0 Az
  split at h0
  .exact absurd h0 Az
  split at h0
  .rename_i h1;exact absurd h0 h1
  .rename_i h1;rw[e1]at h1;unfold CS.begin at h1;split at h1
   .exact absurd h1 Az
   .rename_i h2;omega
 have AFI:C.begin t k v=(0,if k=1 then C.put t (BW C 8)else(Ju C (AZ v C.top) 8).put t ⟨true,true,AZ v C.top,false,[]⟩):=by
  unfold CS.begin;rw[AI J,Gl,AI (by rw[hoff];simp)];split<;>rfl
 have hB:B.begin M.many 6 M.fresh t k c v=(0,{u:=Eh B.u c (if k=1 then C.put t (BW C 8)else(Ju C (AZ v C.top) 8).put t ⟨true,true,AZ v C.top,false,[]⟩),by':=λi=>if i=t then(true,c)else B.by' i}):=by
  unfold BS.begin at h0|-;split at h0
  .exact absurd h0 Az
  rename_i g1;rw[AI g1,AI (by rw[mp];simp),e1,AFI,AI Az,Gl]
 rw[hB];clear h0 hB;obtain⟨C2,hC2⟩:=gX (if k=1 then C.put t (BW C 8)else(Ju C (AZ v C.top) 8).put t ⟨true,true,AZ v C.top,false,[]⟩);rw[hC2];obtain⟨w1,w2,w3,w4⟩:=cK C (AZ v C.top) 8;obtain⟨r1,r2,r3,r4,r5⟩:=Tg C 8
 have hkk:C2.kind=C.kind/\C2.top=C.top/\C2.value=C.value:=by
  rw[<-hC2];split
  .exact⟨rfl,rfl,rfl⟩
  .exact⟨w1,w2,w3⟩
 have hother:∀j,j≠t->C2.B1 j=C.B1 j\/k=2/\(C.B1 j).wr=false/\(C.B1 j).on=true/\C2.B1 j=aJ C.kind (AZ v C.top) (C.B1 j):=λj hj=>by
  rw[<-hC2];rcases hk with rfl|rfl
  .left
   rw[AK rfl];show(if j=t then _ else C.B1 j)=_;rw[AI hj]
  .rw[AI AQ];show(if j=t then _ else(Ju C (AZ v C.top) 8).B1 j)=_\/_/\_/\_/\(if j=t then _ else(Ju C (AZ v C.top) 8).B1 j)=_;rw[AI hj,w4];by_cases h5:j<8/\(C.B1 j).on=true/\(C.B1 j).wr=false
   .rw[AK h5];exact .inr ⟨rfl,h5.2.2,h5.2.1,rfl⟩
   .rw[AI h5];exact .inl rfl
 have AA1:C2.B1 t=if k=1 then BW C 8 else⟨true,true,AZ v C.top,false,[]⟩:=by
  rw[<-hC2];split
  .show(if t=t then _ else _)=_;rw[AK rfl]
  .show(if t=t then _ else _)=_;rw[AK rfl]
 have hstill:k=2\/k=1:=hk.symm
 have hv:∀d,cellAt M (H++[⟨now,t,i,.Kp (k,c,v)⟩]) d (H++[(⟨now,t,i,.Kp (k,c,v)⟩:Au)]).length=cellAt M H d H.length:=λd=>by
  rw[show(H++[(⟨now,t,i,.Kp (k,c,v)⟩:Au)]).length=H.length+1 by simp,LM];rfl
 have hps:∀j b a,j≠t->CH pend t (some (H.length,(k,c,v))) j=some (b,a)->pend j=some (b,a):=λj b a hj e=>by
  unfold CH at e;rw[AI hj]at e;exact e
 have hpt:CH pend t (some (H.length,(k,c,v))) t=some (H.length,(k,c,v)):=by unfold CH;rw[AK rfl]
 have hcl:∀d,MX M ⟨Eh B.u c C2,λi=>if i=t then(true,c)else B.by' i⟩ d=if d=c then C2 else MX M B d:=λd=>by
  unfold MX;by_cases e:d=c
  .subst e;rw[AK rfl];show(C9 (Eh B.u d C2) d).getD _=_;rw[Bs];rfl
  .rw[AI e];show(C9 (Eh B.u c C2) d).getD _=_;rw[CB e]
 have hnew:k=2->∀b,b<H.length->F0 M (H++[⟨now,t,i,.Kp (k,c,v)⟩]) c b (AZ v C.top):=λe b hb=>by
  subst e;exact⟨H.length,⟨now,t,i,.Kp (2,c,v)⟩,v,Az,rfl,by rw[Pv.top],.inl hb⟩
 have hold:∀j,j<8->(C.B1 j).on=true->(C.B1 j).wr=true->F0 M (H++[⟨now,t,i,.Kp (k,c,v)⟩]) c H.length (C.B1 j).val:=λj hj hon hwr=>by
  cases wH:pend j with
  |none=>rw[Pv.off j hj (λb a e=>by rw[wH]at e;cases e)]at hon;cases hon
  |some q=>
   obtain⟨b,a⟩:=q;by_cases hac:a.2.1=c
   .have hs:=Pv.slot j b a hj wH hac;rw[hs.wr]at hwr;have ha:=Il hwr;obtain⟨⟨A,q1,q2,q3⟩,_,q4⟩:=h.at' j b a hj wH;refine⟨b,A,a.2.2,Bg q1,?_,(hs.val ha).symm,.inr ⟨h.lt hj wH,λp A' h5 h6 h7 h8=>q4 p A' h5 (CZ h7 h6) (by rw[h8,q2])⟩⟩;rw[q3];obtain⟨a1,a2,a3⟩:=a;dsimp only at ha hac;rw[ha,hac]
   .rw[Pv.off j hj (λb' a' e=>by rw[wH]at e;cases e;exact hac)]at hon;cases hon
 refine⟨λj b a hj e=>?_,λj hj e=>?_,λd=>?_,λj b a hj e=>?_,λj b a hj e=>?_⟩
 .show(if j=t then(true,c)else B.by' j)=_;by_cases JB:j=t
  .subst JB;rw[hpt]at e;cases e;rw[AK rfl]
  .rw[AI JB];exact h.on j b a hj (hps j b a JB e)
 .show(if j=t then(true,c)else B.by' j)=_;by_cases JB:j=t
  .subst JB;rw[hpt]at e;cases e
  .rw[AI JB];unfold CH at e;rw[AI JB]at e;exact h.off j hj e
 .rw[hcl d];by_cases edc:d=c
  .subst edc;rw[AK rfl];refine⟨hkk.1.trans Pv.kind,hkk.2.1.trans Pv.top,by rw[hv,hkk.2.2];exact Pv.val,λj hj hno=>?_,λj b a hj e he=>?_⟩
   .by_cases JB:j=t
    .subst JB;exact absurd rfl (hno _ _ hpt)
    .have e0:(C.B1 j).on=false:=Pv.off j hj λb a e=>hno b a (by unfold CH;rw[AI JB];exact e)
     rcases hother j JB with e1|⟨_,_,e1,_⟩
     .rw[e1];exact e0
     .rw[e0]at e1;cases e1
   .by_cases JB:j=t
    .subst JB;rw[hpt]at e;cases e;rw[AA1];rcases hk with rfl|rfl
     .rw[AK rfl]
      have hne:∀b' u j',j'<8->pend j'=some (b',(2,d,u))->(C.B1 j').on=true/\(C.B1 j').wr=true:=λb' u j' hj' e'=>by
       have:=Pv.slot j' b' (2,d,u) hj' e' rfl;exact⟨this.on,by rw[this.wr];rfl⟩
      refine⟨r1,r2,λe=>(by cases e),λ_ q=>⟨?_,λj' b' u hj' e'=>?_⟩,λ_ q=>?_,λ_ q=>?_⟩
      .rw[hkk.2.2,Bf M H _ d (A9 _)];exact Pv.val
      .by_cases ej:j'=j
       .subst ej;rw[hpt]at e';cases e'
       .obtain⟨g1,g2⟩:=hne b' u j' hj' (hps j' _ _ ej e');rw[r4 q j' hj' g1]at g2;cases g2
      .obtain⟨j',g1,g2,g3⟩:=r3 q;exact⟨_,hold j' g1 g2 g3⟩
      .rw[hkk.1]at q;refine⟨(r5 q).1,λx hx=>?_⟩;rcases(r5 q).2 x hx with g|⟨j',g1,g2,g3,g4⟩
       .left;rw[g,Bf M H _ d (A9 _)];exact Pv.val
       .right;rw[<-g4];exact hold j' g1 g2 g3
     .rw[AI AQ];exact⟨rfl,rfl,λ_=>(by rw[<-Pv.top]),λe=>absurd e Az,λe=>absurd e Az,λe=>absurd e Az⟩
    .have e':=hps j b a JB e;have hs:=Pv.slot j b a hj e' he;have hb:=h.lt hj e';rcases hother j JB with e1|⟨hk2,hw0,_,e1⟩
     .rw[e1];refine⟨hs.on,hs.wr,hs.val,λq1 q2=>?_,λq1 q2=>?_,λq1 q2=>?_⟩
      .rw[hkk.2.2,Bf M H _ d (BP hb)];refine⟨(hs.quiet q1 q2).1,λj' b' u hj' e2=>?_⟩;by_cases ej:j'=t
       .subst ej;rw[hpt]at e2;cases e2;have:=hC2;rw[AI AQ]at this
        have h9:C2.B1 j=aJ C.kind (AZ v C.top) (C.B1 j):=by
         rw[<-this];show(if j=j' then _ else(Ju C (AZ v C.top) 8).B1 j)=_;rw[AI JB,w4,AK ⟨hj,hs.on,by rw[hs.wr];exact DF J⟩]
        rw[e1]at h9;rw[h9]at q2;cases q2
       .exact(hs.quiet q1 q2).2 j' b' u hj' (hps j' _ _ ej e2)
      .obtain⟨x,hx⟩:=hs.over q1 q2;exact⟨x,hx.grow _ (BP hb)⟩
      .rw[hkk.1]at q2;refine⟨(hs.may q1 q2).1,λx hx=>?_⟩;rw[Bf M H _ d (BP hb)];exact((hs.may q1 q2).2 x hx).imp id (F0.grow _ (BP hb))
     .rw[e1];refine⟨hs.on,hs.wr,hs.val,λq1 q2=>(by cases q2),λq1 q2=>⟨_,hnew hk2 b hb⟩,λq1 q2=>?_⟩;rw[hkk.1]at q2;show(if C.kind=2 then _ else _)≠[]/\∀x,x∈(if C.kind=2 then _ else _)->_;rw[AK q2];refine⟨Az,λx hx=>?_⟩;rw[Bf M H _ d (BP hb)];rcases Cs.1 hx with hx|hx
      .exact((hs.may q1 q2).2 x hx).imp id (F0.grow _ (BP hb))
      .rw[Bq]at hx;rw[hx];exact .inr (hnew hk2 b hb)
  .rw[AI edc];have hc:=h.cell d;refine⟨hc.kind,hc.top,hc.val.trans (hv d).symm,λj hj hno=>?_,λj b a hj e he=>?_⟩
   .by_cases JB:j=t
    .subst JB;exact hc.off j hj λb a e=>by rw[hp]at e;cases e
    .exact hc.off j hj λb a e=>hno b a (by unfold CH;rw[AI JB];exact e)
   .by_cases JB:j=t
    .subst JB;rw[hpt]at e;cases e;exact absurd he.symm edc
    .have e':=hps j b a JB e;have hs:=hc.slot j b a hj e' he;have hb:=h.lt hj e';refine⟨hs.on,hs.wr,hs.val,λq1 q2=>?_,λq1 q2=>?_,λq1 q2=>?_⟩
     .rw[Bf M H _ d (BP hb)];refine⟨(hs.quiet q1 q2).1,λj' b' u hj' e2=>?_⟩;by_cases ej:j'=t
      .subst ej;rw[hpt]at e2;cases e2;exact edc rfl
      .exact(hs.quiet q1 q2).2 j' b' u hj' (hps j' _ _ ej e2)
     .obtain⟨x,hx⟩:=hs.over q1 q2;exact⟨x,hx.grow _ (BP hb)⟩
     .refine⟨(hs.may q1 q2).1,λx hx=>?_⟩;rw[Bf M H _ d (BP hb)];exact((hs.may q1 q2).2 x hx).imp id (F0.grow _ (BP hb))
 .by_cases JB:j=t
  .subst JB;rw[hpt]at e;cases e;exact⟨C2,Bs c C2 B.u⟩
  .obtain⟨D,hD⟩:=h.has j b a hj (hps j b a JB e);by_cases e3:a.2.1=c
   .exact⟨C2,by rw[e3];exact Bs c C2 B.u⟩
   .exact⟨D,by rw[CB e3];exact hD⟩
 .by_cases JB:j=t
  .subst JB;rw[hpt]at e;cases e;refine⟨⟨⟨now,j,i,.Kp (k,c,v)⟩,Az,rfl,rfl⟩,hk,λp A hlt hA=>?_⟩;have:=(Be.1 hA).1;simp at this;omega
  .obtain⟨⟨A',q1,q2⟩,q3,q4⟩:=h.at' j b a hj (hps j b a JB e);refine⟨⟨A',Bg q1,q2⟩,q3,λp A2 hlt hA e=>?_⟩;rcases NW hA with hA|⟨rfl,rfl⟩
   .exact q4 p A2 hlt hA e
   .rfl
def Wq (M:MD)(H:List Au)(c:tyI)(b:tyN)(x:tyI):Prop:=
 if(M.fresh c).kind=1 then x=cellAt M H c b\/(∃v,F0 M H c b v)/\∃d,x=Di d (M.fresh c).top
 else if(M.fresh c).kind=2 then x=cellAt M H c b\/F0 M H c b x
 else x=cellAt M H c H.length
def Told (M:MD)(H:List Au)(a:AD)(b e:tyN)(x:tyI):Prop:=(a.1=1->Wq M (H.take e) a.2.1 b x)/\(a.1=2->x=0)
theorem DN.ends(h:DN M H B pend)(ht:t<8){a:AD}(hp:pend t=some (b,a))(d:tyI)(now i:tyN):
  DN M (H++[⟨now,t,i,.fin a (B.Bm M.fresh t d).1⟩]) (B.Bm M.fresh t d).2.2 (CH pend t none)/\Told M H a b H.length (B.Bm M.fresh t d).1:=by
 obtain⟨k,c,v⟩:=a;obtain⟨C,hC⟩:=h.has t b _ ht hp;have Pv:=h.cell c;have hcB:MX M B c=C:=by unfold MX;rw[hC];rfl
 rw[hcB]at Pv;have hby:=h.on t b _ ht hp
 have mp:B.busy t=(c,true):=by
  unfold BS.busy;rw[AI J,Gl,hby]
 have hs:=Pv.slot t b _ ht hp rfl;have hk:k=1\/k=2:=(h.at' t b _ ht hp).2.1;have hb:=h.lt ht hp
 have hE:C.Bm t d=if k=2 then(0,0,{C.put t Jx with value:=AZ v (M.fresh c).top})else(Qi C (C.B1 t) d,0,C.put t Jx):=by
  unfold CS.Bm;rw[AI J,Gl,AI (by rw[hs.on];simp)];by_cases e:k=2
  .rw[AK (by rw[hs.wr];exact Fi e),AK e,hs.val e]
  .rw[AI (by rw[hs.wr];simpa using e),AI e]
 have hB:B.Bm M.fresh t d=((C.Bm t d).1,(C.Bm t d).2.1,{u:=Eh B.u c (C.Bm t d).2.2,by':=λi=>if i=t then(false,0)else B.by' i}):=by
  unfold BS.Bm;rw[mp,AI Az,hC];rfl
 rw[hB];obtain⟨x,hx⟩:=gX ((C.Bm t d).1);obtain⟨C2,hC2⟩:=gX ((C.Bm t d).2.2);dsimp only;rw[hx,hC2]
 have hb2:∀j,C2.B1 j=if j=t then Jx else C.B1 j:=λj=>by
  rw[<-hC2,hE];split<;>rfl
 have hk2:C2.kind=C.kind/\C2.top=C.top:=by
  rw[<-hC2,hE];split<;>exact⟨rfl,rfl⟩
 have hval:C2.value=if k=2 then AZ v (M.fresh c).top else C.value:=by
  rw[<-hC2,hE];split<;>rfl
 have hv:∀g,cellAt M (H++[⟨now,t,i,.fin (k,c,v) x⟩]) g (H++[(⟨now,t,i,.fin (k,c,v) x⟩:Au)]).length=if k=2/\c=g then AZ v (M.fresh g).top else cellAt M H g H.length:=λg=>by
  rw[show(H++[(⟨now,t,i,.fin (k,c,v) x⟩:Au)]).length=H.length+1 by simp,LM];rfl
 have hcl:∀g,MX M ⟨Eh B.u c C2,λi=>if i=t then(false,0)else B.by' i⟩ g=if g=c then C2 else MX M B g:=λg=>by
  unfold MX;by_cases e:g=c
  .subst e;rw[AK rfl];show(C9 (Eh B.u g C2) g).getD _=_;rw[Bs];rfl
  .rw[AI e];show(C9 (Eh B.u c C2) g).getD _=_;rw[CB e]
 have hps:∀j b a,CH pend t none j=some (b,a)->j≠t/\pend j=some (b,a):=λj b a e=>by
  unfold CH at e;by_cases JB:j=t
  .rw[AK JB]at e;cases e
  .rw[AI JB]at e;exact⟨JB,e⟩
 refine⟨⟨λj b' a' hj e=>?_,λj hj e=>?_,λg=>?_,λj b' a' hj e=>?_,λj b' a' hj e=>?_⟩,λhk1=>?_,λhk2=>?_⟩
 .obtain⟨e1,e2⟩:=hps j b' a' e;show(if j=t then _ else B.by' j)=_;rw[AI e1];exact h.on j b' a' hj e2
 .show(if j=t then(false,0)else B.by' j)=_;by_cases JB:j=t
  .rw[AK JB]
  .rw[AI JB];unfold CH at e;rw[AI JB]at e;exact h.off j hj e
 .rw[hcl g];by_cases egc:g=c
  .subst egc;rw[AK rfl];refine⟨hk2.1.trans Pv.kind,hk2.2.trans Pv.top,?_,λj hj hno=>?_,λj b' a' hj e he=>?_⟩
   .rw[hv,hval];by_cases e:k=2
    .rw[AK e,AK ⟨e,rfl⟩]
    .rw[AI e,AI (λq=>e q.1)];exact Pv.val
   .rw[hb2];by_cases JB:j=t
    .rw[AK JB];rfl
    .rw[AI JB];exact Pv.off j hj λb' a' e=>hno b' a' (by unfold CH;rw[AI JB];exact e)
   .obtain⟨e1,e2⟩:=hps j b' a' e;rw[hb2,AI e1];have hs2:=Pv.slot j b' a' hj e2 he;have hb3:=h.lt hj e2;refine⟨hs2.on,hs2.wr,hs2.val,λq1 q2=>?_,λq1 q2=>?_,λq1 q2=>?_⟩
    .have hq:=hs2.quiet q1 q2;have hkn:k≠2:=λek=>hq.2 t b v ht (by rw[hp,ek])
     rw[hval,AI hkn,Bf M H _ g (BP hb3)];exact⟨hq.1,λj' b2 u hj' e3=>hq.2 j' b2 u hj' (hps j' _ _ e3).2⟩
    .obtain⟨y,hy⟩:=hs2.over q1 q2;exact⟨y,hy.grow _ (BP hb3)⟩
    .rw[hk2.1]at q2;refine⟨(hs2.may q1 q2).1,λy hy=>?_⟩;rw[Bf M H _ g (BP hb3)];exact((hs2.may q1 q2).2 y hy).imp id (F0.grow _ (BP hb3))
  .rw[AI egc];have hc:=h.cell g;refine⟨hc.kind,hc.top,?_,λj hj hno=>?_,λj b' a' hj e he=>?_⟩
   .rw[hv,AI (λq=>egc q.2.symm)];exact hc.val
   .by_cases JB:j=t
    .subst JB;exact hc.off j hj λb' a' e=>by rw[hp]at e;cases e;exact λe9=>egc e9.symm
    .exact hc.off j hj λb' a' e=>hno b' a' (by unfold CH;rw[AI JB];exact e)
   .obtain⟨e1,e2⟩:=hps j b' a' e;have hs2:=hc.slot j b' a' hj e2 he;have hb3:=h.lt hj e2;refine⟨hs2.on,hs2.wr,hs2.val,λq1 q2=>?_,λq1 q2=>?_,λq1 q2=>?_⟩
    .have hq:=hs2.quiet q1 q2;rw[Bf M H _ g (BP hb3)];exact⟨hq.1,λj' b2 u hj' e3=>hq.2 j' b2 u hj' (hps j' _ _ e3).2⟩
    .obtain⟨y,hy⟩:=hs2.over q1 q2;exact⟨y,hy.grow _ (BP hb3)⟩
    .refine⟨(hs2.may q1 q2).1,λy hy=>?_⟩;rw[Bf M H _ g (BP hb3)];exact((hs2.may q1 q2).2 y hy).imp id (F0.grow _ (BP hb3))
 .obtain⟨e1,e2⟩:=hps j b' a' e;obtain⟨D,hD⟩:=h.has j b' a' hj e2;by_cases e3:a'.2.1=c
  .exact⟨C2,by rw[e3];exact Bs c C2 B.u⟩
  .exact⟨D,by rw[CB e3];exact hD⟩
 .obtain⟨e1,e2⟩:=hps j b' a' e;obtain⟨⟨A',q1,q2⟩,q3,q4⟩:=h.at' j b' a' hj e2;refine⟨⟨A',Bg q1,q2⟩,q3,λp A2 hlt hA e=>?_⟩;rcases NW hA with hA|⟨rfl,rfl⟩
  .exact q4 p A2 hlt hA e
  .exact absurd e.symm e1
 .have hk1:k=1:=hk1;subst hk1;have hx2:x=Qi C (C.B1 t) d:=by rw[<-hx,hE,AI AQ]
  rw[IR];show Wq M H c b x;unfold Wq;rw[hx2,<-Pv.kind];unfold Qi;by_cases g1:C.kind=1
  .rw[AK g1];by_cases g2:(C.B1 t).ov=true
   .rw[AK ⟨g1,g2⟩];exact .inr ⟨hs.over rfl g2,d,by rw[Pv.top]⟩
   .rw[AI (λq=>g2 q.2),AI J];exact .inl (hs.quiet rfl (Cw g2)).1
  .have hn:¬(C.kind=1/\(C.B1 t).ov=true):=λq=>g1 q.1
   by_cases g2:C.kind=2
   .rw[AI g1,AK g2,AI hn,AK g2];obtain⟨m1,m2⟩:=hs.may rfl g2;refine m2 _ ?_;rw[gD];have hl:0<(C.B1 t).may.length:=List.length_pos_iff.2 m1
    have hw:(Di d (((C.B1 t).may.length:tyI)-1)).toNat<(C.B1 t).may.length:=by
     have:=R9 d (((C.B1 t).may.length:tyI)-1) J;omega
    rw[gG hw];exact KD hw
   .rw[AI g1,AI g2,AI hn,AI g2];exact Pv.val
 .have hk2:k=2:=hk2;rw[<-hx,hE,AK hk2]
end
structure GC where
 p0:Nat
 loc:List Int
 items:List Item
 out:List Int
 res:Option (Nat×Int×Int)
def AN (AH:List (List CD))(t i:tyN):CD:=(AH.getD t []).getD i (0,0,0)
theorem F0.same{M:MD}{H X:List Au}{v:tyI}(h:F0 M H c b v)(hb:b<=H.length):F0 M (H++X) c b v:=h.grow X hb
theorem Told.grow{M:MD}{H:List Au}(X:List Au){a:AD}(h:Told M H a b e x)(he:e<=H.length):Told M (H++X) a b e x:=by
 unfold Told at h|-;rw[tX he];exact h
structure G5 (M:MD)(H:List Au)(t i:tyN)(L:List Item):Prop where
 note:∀k p,Item.note k p∈L->∃now,H[p]?=some ⟨now,t,i,.note k⟩
 acc:∀a b e x,Item.acc a b e x∈L->(∃now,H[b]?=some ⟨now,t,i,.Kp a⟩)/\(∃now,H[e]?=some ⟨now,t,i,.fin a x⟩)/\(a.1=1\/a.1=2)/\Told M H a b e x
theorem G5.grow{M:MD}{H:List Au}{t i:tyN}{L:List Item}(h:G5 M H t i L)(X:List Au):G5 M (H++X) t i L:=
 ⟨λk p hm=>(h.note k p hm).imp λ_ q=>Bg q,λa b e x hm=>by
  obtain⟨⟨n1,h1⟩,⟨n2,h2⟩,h3,h4⟩:=h.acc a b e x hm
  exact⟨⟨n1,Bg h1⟩,⟨n2,Bg h2⟩,h3,h4.grow X (BP (Be.1 h2).1)⟩⟩
theorem G5.append{M:MD}{H:List Au}{t i:tyN}{L L2:List Item}(h:G5 M H t i L)(h2:G5 M H t i L2):G5 M H t i (L++L2):=
 ⟨λk p hm=>(Cs.1 hm).elim (h.note k p) (h2.note k p),λa b e x hm=>(Cs.1 hm).elim (h.acc a b e x) (h2.acc a b e x)⟩
structure Zq (M:MD)(AH:List (List CD))(H:List Au)(t i:tyN)(c:GC)(o:Op RD)(l:tyL):Prop where
 lt:i<(AH.getD t []).length
 path:Path (M.P t (AN AH t i)) c.loc c.items o l
 seq:Seq c.p0 c.items
 last:AM c.p0 c.items<H.length
 aO:∃now,H[c.p0]?=some ⟨now,t,i,.call⟩
 its:G5 M H t i c.items
 res:c.res=none
structure kj (M:MD)(AH:List (List CD))(H:List Au)(t i:tyN)(c:GC):Prop where
 lt:i<(AH.getD t []).length
 path:∃p e v l,Path (M.P t (AN AH t i)) c.loc c.items (.ret (e,v)) l/\c.out=Ag l/\c.res=some (p,e,v)/\AM c.p0 c.items<p/\∃now,H[p]?=some ⟨now,t,i,.ret e v⟩
 seq:Seq c.p0 c.items
 aO:∃now,H[c.p0]?=some ⟨now,t,i,.call⟩
 its:G5 M H t i c.items
theorem Zq.grow{M:MD}{AH:List (List CD)}{H:List Au}{t i:tyN}{c:GC}{o:Op RD}(h:Zq M AH H t i c o l)(X:List Au):Zq M AH (H++X) t i c o l:=
 ⟨h.lt,h.path,h.seq,by have:=h.last;simp;omega,h.aO.imp λ_ q=>Bg q,h.its.grow X,h.res⟩
theorem kj.grow{M:MD}{AH:List (List CD)}{H:List Au}{t i:tyN}{c:GC}(h:kj M AH H t i c)(X:List Au):kj M AH (H++X) t i c:=by
 obtain⟨p,e,v,l,h1,h2,h3,h4,now,h5⟩:=h.path;exact⟨h.lt,⟨p,e,v,l,h1,h2,h3,h4,now,Bg h5⟩,h.seq,h.aO.imp λ_ q=>Bg q,h.its.grow X⟩
inductive Ph:Type where
 |idle|mid (o:Op RD) (l:tyL)|asked (a:AD) (k:Int->Op RD) (l:tyL)|begun (a:AD) (k:Int->Op RD) (l:tyL) (b:tyN)
def Ph.pend:Ph->Option (Nat×AD)
 | .begun a _ _ b=>some (b,a)
 |_=>none
def NG (cs:List GC):Nat->List Int
 |0=>[]
 |i+1=>match cs[i]? with
  |some c=>c.out
  |none=>[]
def Behind (cs:List GC)(i p:tyN):Prop:= ∀j c q e v,i=j+1->cs[j]?=some c->c.res=some (q,e,v)->q<p
def sx (cs:List GC)(pend:Option (Nat×AD))(n:tyN)(p:tyN)(A:Au):Prop:=A.w= .halt\/∃c,cs[A.i]?=some c/\match A.w with
 | .call=>p=c.p0
 | .note k=>Item.note k p∈c.items
 | .ret e v=>c.res=some (p,e,v)
 | .Kp a=>(∃e x,Item.acc a p e x∈c.items)\/(pend=some (p,a)/\A.i=n)
 | .fin a x=> ∃b,Item.acc a b p x∈c.items
 | .halt=>True
structure Eb (M:MD)(AH:List (List CD))(H:List Au)(t:tyN)(th:N8)(cs:List GC)(cur:Option GC)(ph:Ph):Prop where
 prog:th.prog=AH.getD t []
 next:th.next=cs.length
 fin:∀i c,cs[i]?=some c->kj M AH H t i c/\c.loc=NG cs i/\Behind cs i c.p0
 stat:match ph with
  | .idle=>cur=none/\th.st=0/\th.ans=[]/\th.Bi=0/\th.loc=NG cs cs.length
  | .mid o l=> ∃c,cur=some c/\Zq M AH H t cs.length c o l/\c.loc=NG cs cs.length/\Behind cs cs.length c.p0/\th.loc=c.loc/\th.ans=told c.items/\th.Bi=(kinds c.items).length
  | .asked a k l=>th.st=1/\th.acc=a/\∃c,cur=some c/\Zq M AH H t cs.length c (.ask a k) l/\c.loc=NG cs cs.length/\Behind cs cs.length c.p0/\th.loc=c.loc/\th.ans=told c.items/\th.Bi=(kinds c.items).length
  | .begun a k l b=>th.st=2/\th.acc=a/\∃c,cur=some c/\Zq M AH H t cs.length c (.ask a k) l/\c.loc=NG cs cs.length/\Behind cs cs.length c.p0/\th.loc=c.loc/\th.ans=told c.items/\th.Bi=(kinds c.items).length/\AM c.p0 c.items<b/\b<H.length/\(a.1=1\/a.1=2)/\∃now,H[b]?=some ⟨now,t,cs.length,.Kp a⟩
 Rm:∀p A,H[p]?=some A->A.t=t->sx (cs++cur.toList) ph.pend cs.length p A
section
variable {M:MD}{AH:List (List CD)}{H:List Au}{t:tyN}{th:N8}{cs:List GC}{cur:Option GC}{ph:Ph}
theorem Eb.grow(h:Eb M AH H t th cs cur ph)(X:List Au)(hX:∀A,A∈X->A.t≠t):Eb M AH (H++X) t th cs cur ph:=by
 refine⟨h.prog,h.next,λi c hc=>⟨(h.fin i c hc).1.grow X,(h.fin i c hc).2⟩,?_,λp A hA ht=>?_⟩
 .have:=h.stat;cases ph with
  |idle=>exact this
  |mid o l=>obtain⟨c,h1,h2,h3⟩:=this;exact⟨c,h1,h2.grow X,h3⟩
  |asked a k l=>obtain⟨g1,g2,c,h1,h2,h3⟩:=this;exact⟨g1,g2,c,h1,h2.grow X,h3⟩
  |begun a k l b=>
   obtain⟨g1,g2,c,h1,h2,h3,h4,h5,h6,h7,h8,h9,h10,now,h11⟩:=this;exact⟨g1,g2,c,h1,h2.grow X,h3,h4,h5,h6,h7,h8,by simp;omega,h10,now,Bg h11⟩
 .rcases CR p H.length with hp|hp
  .exact h.Rm p A (CZ hA hp) ht
  .rw[Gb hp]at hA;exact absurd ht (hX A (BI hA))
theorem Nv{cs:List GC}{pend:Option (Nat×AD)}{n:tyN}{H:List Au}{A:Au}{t:tyN}(h:∀p B,H[p]?=some B->B.t=t->sx cs pend n p B)(hA:sx cs pend n H.length A):∀p B,(H++[A])[p]?=some B->B.t=t->sx cs pend n p B:=λp B hB ht=>by
 rcases NW hB with hB|⟨rfl,rfl⟩
 .exact h p B hB ht
 .exact hA
theorem Cq(cs:List GC)(c:GC):(cs++[c])[cs.length]?=some c:=Az
theorem sx.more{cs:List GC}{pend:Option (Nat×AD)}{A:Au}{c c':GC}(h:sx (cs++[c]) pend cs.length p A)(h0:c'.p0=c.p0)(hi:∀x,x∈c.items->x∈c'.items)(hr:c.res=none):sx (cs++[c']) pend cs.length p A:=by
 rcases h with h|⟨d,h1,h2⟩
 .exact .inl h
 .right
  rcases CR A.i cs.length with hlt|hge
  .refine⟨d,?_,h2⟩;rw[IC hlt]at h1|-;exact h1
  .have e:A.i=cs.length:=by
    have:=(Be.1 h1).1;simp at this;omega
   rw[e,Cq]at h1;cases h1
   refine⟨c',by rw[e];exact Cq _ _,?_⟩;cases hw:A.w with
   |call=>rw[hw]at h2;exact h2.trans h0.symm
   |note k=>rw[hw]at h2;exact hi _ h2
   |ret e v=>rw[hw,hr]at h2;cases h2
   |Kp a=>rw[hw]at h2;exact h2.imp (λ⟨e,x,h⟩=>⟨e,x,hi _ h⟩) id
   |fin a x=>rw[hw]at h2;exact h2.imp λb h=>hi _ h
   |halt=>trivial
theorem Eb.call(h:Eb M AH H t th cs cur .idle)(hlt:th.next<th.prog.length)(now:tyN):
  ∃cur',Eb M AH (H++[⟨now,t,th.next,.call⟩]) t th cs cur' (.mid (M.P t th.call) th.loc):=by
 obtain⟨h1,h2,h3,h4,h5⟩:=h.stat
 have hpl:∀(j:tyN) (c:GC) q e v,cs[j]?=some c->c.res=some (q,e,v)->q<H.length:=λj c q e v hc hr=>by
  obtain⟨p,e',v',l,g1,g2,g3,g4,now,g5⟩:=(h.fin j c hc).1.path;rw[hr]at g3;cases g3;exact(Be.1 g5).1
 have hcall:th.call=AN AH t cs.length:=by
  unfold N8.call AN;rw[h.prog,h.next]
 refine⟨some ⟨H.length,th.loc,[],[],none⟩,h.prog,h.next,λi c hc=>⟨(h.fin i c hc).1.grow _,(h.fin i c hc).2⟩,⟨_,rfl,?_,h5,λj c q e v hj hc hr=>hpl j c q e v hc hr,rfl,h3,h4⟩,?_⟩
 .refine⟨by rw[<-h.next,<-h.prog];exact hlt,by rw[hcall];exact .nil _ _,trivial,by simp[AM],⟨now,by rw[h.next];simp⟩,⟨λk p hm=>(by cases hm),λa b e x hm=>(by cases hm)⟩,rfl⟩
 .refine Nv (λp B hB ht=>?_) ?_
  .have:=h.Rm p B hB ht;rw[h1]at this;rcases this with q|⟨c,q1,q2⟩
   .exact .inl q
   .right
    simp only[zz8,Jc]at q1;refine⟨c,by rw[IC (Be.1 q1).1];exact q1,?_⟩;cases hw:B.w with
    |Kp a=>
     rw[hw]at q2;exact q2.imp id λq3=>(by cases q3.1)
    |call=>rw[hw]at q2;exact q2
    |note k=>rw[hw]at q2;exact q2
    |ret e v=>rw[hw]at q2;exact q2
    |fin a x=>rw[hw]at q2;exact q2
    |halt=>trivial
  .exact .inr ⟨_,by rw[h.next];exact Cq _ _,rfl⟩
theorem fU(p lo:tyN)(h:lo<p):∀ks,Seq lo (GN p ks)/\AM lo (GN p ks)<p+ks.length:=λks=>by
 induction ks generalizing p lo with
 |nil=>exact⟨trivial,h⟩
 |cons k ks ih=>
  have:=ih (p+1) p J;exact⟨⟨h,this.1⟩,by show AM p _<p+(ks.length+1);omega⟩
theorem iY(p:tyN):∀(ks:tyL) (k:tyI) (q:tyN),Item.note k q∈GN p ks->p<=q/\ks[q-p]?=some k:=λks=>by
 induction ks generalizing p with
 |nil=>intro k q h;cases h
 |cons k' ks ih=>
  intro k q h;rcases BJ.1 h with e|h
  .cases e;exact⟨A9 _,by rw[VN];rfl⟩
  .obtain⟨h1,h2⟩:=ih (p+1) k q h;refine⟨J,?_⟩;rw[show q-p=q-(p+1)+1 by omega,Kk];exact h2
theorem mF(p:tyN):∀(ks:tyL) (j:tyN) (k:tyI),ks[j]?=some k->Item.note k (p+j)∈GN p ks:=λks=>by
 induction ks generalizing p with
 |nil=>intro j k h;cases h
 |cons k' ks ih=>
  intro j k h;cases j with
  |zero=>rw[Gc]at h;cases h;exact .head _
  |succ j=>
   rw[Kk]at h;refine .tail _ ?_;have:=ih (p+1) j k h;rwa[show p+1+j=p+(j+1) by omega]at this
theorem Wj(p:tyN):∀(ks:tyL) (a:AD) (b e:tyN) (x:tyI),Item.acc a b e x∉GN p ks:=λks=>by
 induction ks generalizing p with
 |nil=>intro a b e x h;cases h
 |cons k' ks ih=>
  intro a b e x h;rcases BJ.1 h with e'|h
  .cases e'
  .exact ih (p+1) a b e x h
theorem Eb.notes{o:Op RD}(h:Eb M AH H t th cs cur (.mid o l))(now:tyN):
  ∃cur',Eb M AH (H++(o.head l).2.2.map λk=>⟨now,t,th.next,.note k⟩) t {th with Bi:=th.Bi+(o.head l).2.2.length} cs cur' (.mid (o.head l).1.op (o.head l).2.1):=by
 obtain⟨c,h1,h2,h3,h4,h5,h6,h7⟩:=h.stat;obtain⟨ks,hks⟩:=gX ((o.head l).2.2);have hp:=JY o l H.length;rw[hks]at hp|-
 have hat:∀j k,ks[j]?=some k->(H++ks.map λk=>(⟨now,t,th.next,.note k⟩:Au))[H.length+j]?=some ⟨now,t,th.next,.note k⟩:=λj k hj=>by
  rw[Gb (qz _ _),show H.length+j-H.length=j by omega,BY,hj];rfl
 have hns:=fU H.length _ h2.last ks;refine⟨some {c with items:=c.items++GN H.length ks},h.prog,h.next,λi c hc=>⟨(h.fin i c hc).1.grow _,(h.fin i c hc).2⟩,⟨_,rfl,⟨h2.lt,h2.path.trans hp,Seq.append.2 ⟨h2.seq,hns.1⟩,?_,h2.aO.imp λ_ q=>Bg q,(h2.its.grow _).append ⟨λk p hm=>?_,λa b e x hm=>absurd hm (Wj _ _ _ _ _ _)⟩,h2.res⟩,h3,h4,h5,?_,?_⟩,λp A hA ht=>?_⟩
 .rw[AY];simp;exact hns.2
 .obtain⟨q1,q2⟩:=iY _ _ _ _ hm;have:=hat _ _ q2;rw[show H.length+(p-H.length)=p by omega]at this;exact⟨now,by rw[<-h.next];exact this⟩
 .rw[IQ,Vh,Jc];exact h6
 .rw[G6,Sh,Gx,<-h7]
 .rcases CR p H.length with hlt|hge
  .have:=h.Rm p A (CZ hA hlt) ht;rw[h1]at this;exact this.more rfl (λx hx=>P3 _ hx) h2.res
  .rw[Gb hge,BY]at hA;cases hk:ks[p-H.length]? with
   |none=>rw[hk]at hA;cases hA
   |some k=>
    rw[hk]at hA;cases hA;refine .inr ⟨_,by rw[h.next];exact Cq _ _,LF _ ?_⟩;have:=mF H.length ks _ k hk;rwa[show H.length+(p-H.length)=p by omega]at this
theorem NR(cs:List GC)(c:GC){i:tyN}(h:i<=cs.length):NG (cs++[c]) i=NG cs i:=by
 cases i with
 |zero=>rfl
 |succ i=>
  show(match(cs++[c])[i]? with|some c=>c.out|none=>[])=(match cs[i]? with|some c=>c.out|none=>[]);rw[IC J]
theorem Zr(cs:List GC)(c:GC):NG (cs++[c]) (cs.length+1)=c.out:=by
 show(match(cs++[c])[cs.length]? with|some c=>c.out|none=>[])=_;rw[Cq]
theorem Behind.append{cs:List GC}{c:GC}{i:tyN}(h:Behind cs i p)(hi:i<=cs.length):Behind (cs++[c]) i p:=λj d q e v hj hd hr=>by
 rw[IC J]at hd;exact h j d q e v hj hd hr
theorem Eb.ret{v:RD}(h:Eb M AH H t th cs cur (.mid (.ret v) l))(now:tyN):
  ∃cs',Eb M AH (H++[⟨now,t,th.next,.ret v.1 v.2⟩]) t {th with loc:=Ag l,ans:=[],Bi:=0,st:=0,next:=th.next+1} cs' none .idle:=by
 obtain⟨c,h1,h2,h3,h4,h5,h6,h7⟩:=h.stat;obtain⟨c',hc'⟩:∃c':GC,c'={c with out:=Ag l,res:=some (H.length,v.1,v.2)}:=⟨_,rfl⟩;refine⟨cs++[c'],h.prog,by simp[h.next],λi d hd=>?_,⟨rfl,rfl,rfl,rfl,by rw[Gx,IN,Zr,hc']⟩,?_⟩
 .rcases CR i cs.length with hlt|hge
  .rw[IC hlt]at hd;obtain⟨q1,q2,q3⟩:=h.fin i d hd;exact⟨q1.grow _,by rw[NR cs c' (BP hlt)];exact q2,q3.append (BP hlt)⟩
  .have e:i=cs.length:=by
    have:=(Be.1 hd).1;simp at this;omega
   subst e;rw[Cq]at hd;cases hd;subst hc';have g:=h2.grow [⟨now,t,th.next,.ret v.1 v.2⟩];exact⟨⟨h2.lt,⟨H.length,v.1,v.2,l,h2.path,rfl,rfl,h2.last,now,by rw[h.next];simp⟩,h2.seq,g.aO,g.its⟩,by rw[NR cs _ (A9 _)];exact h3,h4.append (A9 _)⟩
 .refine Nv (λp B hB ht=>?_) ?_
  .have:=h.Rm p B hB ht;rw[h1]at this;rcases this with q|⟨d,q1,q2⟩
   .exact .inl q
   .right
    rw[zz8,Jc];have hq1:(cs++[c])[B.i]?=some d:=q1;rcases CR B.i cs.length with hlt|hge
    .rw[IC hlt]at hq1;refine⟨d,by rw[IC hlt];exact hq1,?_⟩;cases hw:B.w with
     |Kp a=>rw[hw]at q2;exact q2.imp id λq3=>(by cases q3.1)
     |call=>rw[hw]at q2;exact q2
     |note k=>rw[hw]at q2;exact q2
     |ret e v=>rw[hw]at q2;exact q2
     |fin a x=>rw[hw]at q2;exact q2
     |halt=>trivial
    .have e:B.i=cs.length:=by
      have:=(Be.1 hq1).1;simp at this;omega
     rw[e,Cq]at hq1;cases hq1;refine⟨c',by rw[e];exact Cq _ _,?_⟩;subst hc';cases hw:B.w with
     |Kp a=>rw[hw]at q2;exact q2.imp id λq3=>(by cases q3.1)
     |call=>rw[hw]at q2;exact q2
     |note k=>rw[hw]at q2;exact q2
     |ret e v=>rw[hw,h2.res]at q2;cases q2
     |fin a x=>rw[hw]at q2;exact q2
     |halt=>trivial
  .refine .inr ⟨c',by rw[zz8,Jc,h.next];exact Cq _ _,?_⟩;rw[hc']
theorem Eb.ask{a:AD}{k:Int->Op RD}(h:Eb M AH H t th cs cur (.mid (.ask a k) l)):Eb M AH H t {th with acc:=a,st:=1} cs cur (.asked a k l):=by
 obtain⟨c,h1,h2⟩:=h.stat;exact⟨h.prog,h.next,h.fin,⟨rfl,rfl,c,h1,h2⟩,h.Rm⟩
theorem Eb.Kp{a:AD}{k:Int->Op RD}(h:Eb M AH H t th cs cur (.asked a k l))(ha:a.1=1\/a.1=2)(now:tyN):Eb M AH (H++[⟨now,t,th.next,.Kp a⟩]) t {th with st:=2} cs cur (.begun a k l H.length):=by
 obtain⟨g1,g2,c,h1,h2,h3,h4,h5,h6,h7⟩:=h.stat;refine⟨h.prog,h.next,λi c hc=>⟨(h.fin i c hc).1.grow _,(h.fin i c hc).2⟩,⟨rfl,g2,c,h1,h2.grow _,h3,h4,h5,h6,h7,h2.last,Az,ha,now,by rw[h.next];simp⟩,Nv (λp B hB ht=>?_) ?_⟩
 .have:=h.Rm p B hB ht;rcases this with q|⟨d,q1,q2⟩
  .exact .inl q
  .refine .inr ⟨d,q1,?_⟩;cases hw:B.w with
   |Kp a=>rw[hw]at q2;exact q2.imp id λq3=>(by cases q3.1)
   |call=>rw[hw]at q2;exact q2
   |note k=>rw[hw]at q2;exact q2
   |ret e v=>rw[hw]at q2;exact q2
   |fin a x=>rw[hw]at q2;exact q2
   |halt=>trivial
 .refine .inr ⟨c,by rw[h1,h.next];exact Cq _ _,.inr ⟨rfl,h.next⟩⟩
theorem Eb.AE7{a:AD}{k:Int->Op RD}(h:Eb M AH H t th cs cur (.begun a k l b))(x:tyI)(hx:Told M H a b H.length x)(now:tyN):
  ∃cur',Eb M AH (H++[⟨now,t,th.next,.fin a x⟩]) t {th with ans:=th.ans++[x],GD:=th.GD+1} cs cur' (.mid (k x) l):=by
 obtain⟨g1,g2,c,h1,h2,h3,h4,h5,h6,h7,h8,h9,h10,n0,h11⟩:=h.stat;refine⟨some {c with items:=c.items++[.acc a b H.length x]},h.prog,h.next,λi c hc=>⟨(h.fin i c hc).1.grow _,(h.fin i c hc).2⟩,⟨_,rfl,⟨h2.lt,h2.path.trans (.ask b H.length x (.nil _ _)),Seq.append.2 ⟨h2.seq,h8,h9,trivial⟩,?_,h2.aO.imp λ_ q=>Bg q,(h2.its.grow _).append ⟨λk p hm=>by simp at hm,λa' b' e' x' hm=>?_⟩,h2.res⟩,h3,h4,h5,?_,?_⟩,Nv (λp B hB ht=>?_) ?_⟩
 .rw[AY];simp[AM]
 .rw[Bq]at hm;cases hm;exact⟨⟨n0,Bg h11⟩,⟨now,by rw[h.next];simp⟩,h10,hx.grow _ (A9 _)⟩
 .rw[IQ];show th.ans++[x]=told c.items++[x];rw[h6]
 .rw[G6];show th.Bi=(kinds c.items++[]).length;rw[Jc];exact h7
 .have:=h.Rm p B hB ht;rw[h1]at this;have h9:=this.more (c':={c with items:=c.items++[.acc a b H.length x]}) rfl (λy hy=>P3 _ hy) h2.res;rcases h9 with q|⟨d,q1,q2⟩
  .exact .inl q
  .refine .inr ⟨d,q1,?_⟩;cases hw:B.w with
   |Kp a'=>
    rw[hw]at q2;rcases q2 with q2|⟨q2,q3⟩
    .exact .inl q2
    .cases q2
     rw[q3,Cq]at q1;cases q1;exact .inl ⟨H.length,x,LF _ (.head _)⟩
   |call=>rw[hw]at q2;exact q2
   |note k=>rw[hw]at q2;exact q2
   |ret e v=>rw[hw]at q2;exact q2
   |fin a x=>rw[hw]at q2;exact q2
   |halt=>trivial
 .exact .inr ⟨_,by rw[h.next];exact Cq _ _,b,LF _ (.head _)⟩
theorem Eb.halt(h:Eb M AH H t th cs cur ph)(now i:tyN)(hb:Bool):Eb M AH (H++[⟨now,t,i,.halt⟩]) t {th with CV:=hb} cs cur ph:=by
 refine⟨h.prog,h.next,λi c hc=>⟨(h.fin i c hc).1.grow _,(h.fin i c hc).2⟩,?_,Nv h.Rm (.inl rfl)⟩;have:=h.stat;cases ph with
 |idle=>exact this
 |mid o l=>obtain⟨c,h1,h2,h3⟩:=this;exact⟨c,h1,h2.grow _,h3⟩
 |asked a k l=>obtain⟨g1,g2,c,h1,h2,h3⟩:=this;exact⟨g1,g2,c,h1,h2.grow _,h3⟩
 |begun a k l b=>
  obtain⟨g1,g2,c,h1,h2,h3,h4,h5,h6,h7,h8,h9,h10,now,h11⟩:=this;exact⟨g1,g2,c,h1,h2.grow _,h3,h4,h5,h6,h7,h8,by simp;omega,h10,now,Bg h11⟩
def Eo (M:MD)(t now:tyN)(th:N8):List Au:=
 ((Co M t th).2.Bi.drop th.Bi).map (λk=>⟨now,t,th.next,.note k.1⟩)++(match(Co M t th).1 with|none=>[]|some v=>[⟨now,t,th.next,.ret v.1 v.2⟩])
theorem Eb.tF{o:Op RD}(h:Eb M AH H t th cs cur (.mid o l))(now:tyN):
  ∃cs' cur' dV,Eb M AH (H++Eo M t now th) t (Gv M t th) cs' cur' dV/\(dV= .idle/\(Gv M t th).st=0\/∃a k l',dV= .asked a k l'/\(Gv M t th).st=1):=by
 obtain⟨c,h1,h2,h3,h4,h5,h6,h7⟩:=h.stat;have hcall:th.call=AN AH t cs.length:=by unfold N8.call AN;rw[h.prog,h.next]
 obtain⟨N',e1,e2⟩:=h2.path.BH [] [] [] [] rfl;simp only[PL,Jc]at e1
 have hR:Co M t th=o.BH ⟨told c.items,l,asks c.items,N'⟩:=by
  unfold Co;rw[hcall,h6,h5];exact e1
 have hlen:N'.length=th.Bi:=by rw[h7,<-e2,Ca]
 rw[LG]at hR;have mq:=h.notes now;obtain⟨⟨hd,l2,ks⟩,hh⟩:∃q,o.head l=q:=⟨_,rfl⟩;rw[show(⟨told c.items,l,asks c.items,N'⟩:TS).loc=l from rfl,hh]at hR;rw[hh]at mq;obtain⟨wI,hT⟩:=mq
 have hdrop:∀z:Int,((N'++ks.map λk=>(k,z)).drop th.Bi).map (λk=>(⟨now,t,th.next,.note k.1⟩:Au))=ks.map λk=>⟨now,t,th.next,.note k⟩:=λz=>by
  rw[<-hlen,List.drop_left,WY];rfl
 cases hd with
 |done v=>
  have hR2:Co M t th=(some v,⟨told c.items,l2,asks c.items,N'++ks.map λk=>(k,((asks c.items).length:tyI))⟩):=hR
  have eA:Eo M t now th=(ks.map λk=>(⟨now,t,th.next,.note k⟩:Au))++[⟨now,t,th.next,.ret v.1 v.2⟩]:=by
   unfold Eo;rw[hR2];dsimp only;rw[hdrop]
  have eT:Gv M t th={th with loc:=Ag l2,ans:=[],Bi:=0,st:=0,next:=th.next+1}:=by
   unfold Gv;rw[hR2]
  obtain⟨cs',hF⟩:=hT.ret now;rw[eA,eT,<-Jt];exact⟨cs',none,.idle,hF,.inl ⟨rfl,rfl⟩⟩
 |wait a k=>
  have hn:¬(asks c.items).length<(told c.items).length:=by rw[PM];omega
  have hR2:Co M t th=(none,⟨told c.items,l2,asks c.items++[a],N'++ks.map λk=>(k,((asks c.items).length:tyI))⟩):=by
   rw[hR];show(if(asks c.items).length<(told c.items).length then _ else _)=_;rw[AI hn];rfl
  have eA:Eo M t now th=(ks.map λk=>(⟨now,t,th.next,.note k⟩:Au)):=by
   unfold Eo;rw[hR2];dsimp only;rw[hdrop];exact Jc _
  have eT:Gv M t th={th with Bi:=th.Bi+ks.length,acc:=a,st:=1}:=by
   unfold Gv;rw[hR2];dsimp only
   have e9:(asks c.items++[a]).getD ((asks c.items++[a]).length-1) (0,0,0)=a:=by
    rw[Gx,IN,Nat.add_sub_cancel,gD,Gb (A9 _),VN];rfl
   rw[e9];simp only[Gx,Ca,hlen]
  rw[eA,eT];exact⟨cs,wI,.asked a k l2,hT.ask,.inr ⟨a,k,l2,rfl,rfl⟩⟩
end
end
end Go.Proofs.YtpodgcpkccpnfaaGreat
