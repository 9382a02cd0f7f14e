import Derived.Test.YtpodgcpkccpnfaaGreatPk19
set_option linter.unusedVariables false
set_option linter.unusedSimpArgs false
set_option maxRecDepth 20000
set_option maxHeartbeats 40000000
namespace Go.Proofs.YtpodgcpkccpnfaaGreat
variable{a:AD}{f:AD->Op Int}{b i lo v x:Int}{K:List Ch}{l l':List Int}{L:List Item}{N at' e:Nat}{o o':Op Int}{s:TS}
section
open Go.RowKit
def CA (o:Op Int):Prop:= ∃a k,o= .ask a k
theorem GW(b lo:tyI)(a:AD):CA (Ix b lo a):=by
 unfold Ix;split
 .exact⟨_,_,rfl⟩
 .exact⟨_,_,rfl⟩
theorem CE(b lo:tyI)(a:AD):CA (Pd b lo a):=by
 unfold Pd;split
 .exact⟨_,_,rfl⟩
 split
 .exact GW _ _ _
 split
 .exact GW _ _ _
 split
 .exact GW _ _ _
 .exact GW _ _ _
theorem CA.ask(h:CA o)(x:tyI):o≠ .ret x:=by
 obtain⟨a,k,rfl⟩:=h;exact λe=>by cases e
theorem CA.some(h:CA o)(hp:Path o l L (.ret x) l'):L≠[]:=by
 obtain⟨a,k,rfl⟩:=h;obtain⟨b,e,x',L',rfl,_⟩:=hp.EO;simp
theorem CA.places(h:CA o)(hp:Path o l L o' l')(h0:L≠[]){lo:tyN}(hs:Seq lo L):lo<DR lo L/\DR lo L<AM lo L:=by
 obtain⟨a,k,rfl⟩:=h;rcases hp.Ba with⟨e,_⟩|⟨b,e,x',L',rfl,_⟩
 .exact absurd e h0
 .exact⟨hs.1,B5 hs.2.1 (Seq.A7 (L:=L') hs.2.2)⟩
theorem Pt{lo:tyN}{M:List Item}(h:L≠[]):DR lo (L++M)=DR lo L:=by
 cases L with
 |nil=>exact absurd rfl h
 |cons i L=>cases i<;>rfl
theorem DE.Ba{α:Type}{k:Int->Op α}{o':Op α}{lo:tyN}(h:DE f (.ask a k) l lo L K o' l'):
  (L=[]/\K=[]/\∀v,o'≠ .ret v)\/(∃o1,K=[⟨a,lo,L,l,l',none⟩]/\L≠[]/\Path (f a) l L o1 l'/\(∀x,o1≠ .ret x)/\∀v,o'≠ .ret v)\/
   ∃L1 L2 K2 l1 x,K=⟨a,lo,L1,l,l1,some x⟩::K2/\L=L1++L2/\Path (f a) l L1 (.ret x) l1/\DE f (k x) l1 (AM lo L1) L2 K2 o' l':=by
 cases h with
 |nil=>exact .inl ⟨rfl,rfl,λv e=>by cases e⟩
 |ask h1 h2=>exact .inr (.inr ⟨_,_,_,_,_,rfl,rfl,h1,h2⟩)
 |stop h1 hn h0=>exact .inr (.inl ⟨_,rfl,h0,h1,hn,λv e=>by cases e⟩)
theorem DE.Ed{α:Type}{k:Int->Op α}{o':Op α}{lo:tyN}(h:DE f (.get i k) l lo L K o' l'):
  (L=[]/\K=[]/\∀v,o'≠ .ret v)\/DE f (k (Ac l i)) l lo L K o' l':=by
 cases h with
 |nil=>exact .inl ⟨rfl,rfl,λv e=>by cases e⟩
 |get h=>exact .inr h
theorem DE.G7{α:Type}{k:Op α}{o':Op α}{lo:tyN}(h:DE f (.set i x k) l lo L K o' l'):
  (L=[]/\K=[]/\∀v,o'≠ .ret v)\/DE f k (I4 l i x) lo L K o' l':=by
 cases h with
 |nil=>exact .inl ⟨rfl,rfl,λv e=>by cases e⟩
 |set h=>exact .inr h
theorem DE.BV{α:Type}{v:α}{o':Op α}{lo:tyN}(h:DE f (.ret v) l lo L K o' l'):L=[]/\K=[]/\o'= .ret v/\l'=l:=by
 cases h;exact⟨rfl,rfl,rfl,rfl⟩
theorem QY{k:Op Int}(h:DE f (lZ b lo v k) l at' L K o' l'):
  (L=[]/\K=[]/\∀v,o'≠ .ret v)\/(Ac l lo=v/\DE f k l at' L K o' l')\/(Ac l lo≠v/\((∃o1,K=[⟨(2,b,v),at',L,l,l',none⟩]/\L≠[]/\Path (f (2,b,v)) l L o1 l'/\∀v,o'≠ .ret v)\/
   ∃L1 L2 K2 l1 x,K=⟨(2,b,v),at',L1,l,l1,some x⟩::K2/\L=L1++L2/\Path (f (2,b,v)) l L1 (.ret x) l1/\DE f k l1 (AM at' L1) L2 K2 o' l')):=by
 unfold lZ at h;rcases h.Ed with h|h
 .exact .inl h
 split at h
 .rename_i e;exact .inr (.inl ⟨e,h⟩)
 .rename_i e;rcases h.Ba with h|⟨o1,h1,h2,h3,h4,h5⟩|h
  .exact .inl h
  .exact .inr (.inr ⟨e,.inl ⟨o1,h1,h2,h3,h5⟩⟩)
  .exact .inr (.inr ⟨e,.inr h⟩)
structure ChAt (N:tyN)(u:Ch)(b e:tyN):Prop where
 fb:u.fb=b
 e:u.e N=e
theorem Ep(y:tyI):Df y=0\/Df y=1:=by unfold Df;split<;>simp
theorem IA(y:tyI):CT y=0\/CT y=1:=by unfold CT;split<;>simp
def D9 (c:tyI)(a:AD):Bool:=decide (a.2.1=c)
structure WOp (b lo:tyI)(N:tyN)(v:tyI)(l l':tyL)(at':tyN)(L:List Item)(K:List Ch)(o':Op Int)(o:Em)(f:Bool):Prop where
 val:o.v=v
 rd:∃c y,c∈K/\c.a=(1,b+13,0)/\c.res=some y/\c.fb=o.yb/\c.e N=o.ye/\o.p=Df y
 O7:at'<o.yb/\o.yb<o.ye/\o.ye<o.db/\o.db<o.de/\o.de<=o.sb/\o.sb<=o.se/\o.se<=o.lb/\o.lb<=o.le/\o.le<=N
 i:o.i=Df (Ac l (lo+o.p))
 slot:∀q,(q=0\/q=1)->(K.filter λu=>D9 (b+(4+3*q)) u.a).map (Ch.wr N)=if o.p=q/\o.sb<N then[⟨o.i,o.sb,o.se⟩]else[]
 mL:(K.filter λu=>D9 (b+10) u.a).map (Ch.wr N)=if f=true then[⟨o.p,o.lb,o.le⟩]else[]
 AEz:f=false->Ac l (lo+10)=o.p\/N<=o.lb
 data:∃x,∀a b' e y,(a.2.1<b+4/\Item.acc a b' e y∈L)↔(a=(2,b+(2*o.p+o.i),v)/\b'=o.db/\e=o.de/\y=x)
 fin:∀x,o'= .ret x->o.le=AM at' L/\Ac l' (lo+o.p)=o.i/\Ac l' (lo+(2+4*o.p))=o.i/\Ac l' (lo+(1-o.p))=Ac l (lo+(1-o.p))/\Ac l' (lo+(2+4*(1-o.p)))=Ac l (lo+(2+4*(1-o.p)))/\Ac l' (lo+10)=o.p
 fb:DR at' L=o.yb
def oX (b lo:tyI)(u:Ch):Prop:=u.its≠[]/\(u.a.2.1=b+13->u.a.1=1)/\(∀q,(q=0\/q=1)->u.a.2.1=b+(4+3*q)->u.a.1=2/\(u.a.2.2=0\/u.a.2.2=1)/\Ac u.l (lo+(2+4*q))≠u.a.2.2)/\(u.a.2.1=b+10->u.a.1=2/\(u.a.2.2=0\/u.a.2.2=1)/\Ac u.l (lo+10)≠u.a.2.2)
theorem Qv{b lo β:tyI}(hlo:0<=lo/\lo+4<=32768)(h:Path (oY b lo β) l L (.ret x) l'):Ac l' lo=β:=by
 rcases Rs hlo h with⟨_,hn⟩|⟨vb,ve,x0,⟨_,hn⟩|⟨rb,re,y,⟨_,_,hn⟩|⟨wb,we,x1,_,_,hn⟩⟩⟩
 .exact absurd rfl (hn x)
 .exact absurd rfl (hn x)
 .exact(hn x rfl).1
 .exact(hn x rfl).1
theorem Ge(h:a.2.1<b+4):Pd b lo a= .ask a .ret:=by unfold Pd;rw[AK h]
theorem Fj{q:tyI}(hq:q=0\/q=1)(h:a.2.1=b+(4+3*q)):Pd b lo a=Ix (b+(4+3*q)) (lo+(2+4*q)) a:=by
 unfold Pd;rcases hq with rfl|rfl
 .rw[AI J,AK J];congr 1
 .rw[AI J,AI J,AK J];congr 1
theorem Iq(h:a.2.1=b+10):Pd b lo a=Ix (b+10) (lo+10) a:=by
 unfold Pd;rw[AI J,AI J,AI J,AK J]
theorem IT(h:a.2.1=b+13):Pd b lo a=Ix (b+13) (lo+14) a:=by
 unfold Pd;rw[AI J,AI J,AI J,AI J]
theorem DU(h:Path (Ix b lo a) l L o l'){a':AD}{b':tyN}(hm:Item.acc a' b' e x∈L):b<=a'.2.1/\a'.2.1<b+3:=
 (h.all (Q:=λa'=>b<=a'.2.1/\a'.2.1<b+3) (NF (λa h1 h2=>⟨h1,h2⟩) a)).1 a' b' e x hm
theorem j7(hlo:0<=lo/\lo+18<=32768)(h:DE (Pd b lo) (qp b lo v) l at' L K o' l')(hs:Seq at' L)(hN:AM at' L<=N)
  (h0:Ac l lo=0\/Ac l lo=1) (h1:Ac l (lo+1)=0\/Ac l (lo+1)=1) (h2:Ac l (lo+2)=Ac l lo) (h3:Ac l (lo+6)=Ac l (lo+1)):
  (∀u,u∈K->oX b lo u)/\(((∀u,u∈K->u.a=(1,b+13,0))/\(∀a b' e x,Item.acc a b' e x∈L->b+13<=a.2.1)/\∀x,o'≠ .ret x)\/∃o f,WOp b lo N v l l' at' L K o' o f):=by
 unfold qp at h;rcases h.Ba with⟨rfl,rfl,hn⟩|⟨o1,rfl,hL,hp,hn1,hn⟩|⟨L1,L2,K2,l1,y,hK2,hL2,hp1,hd⟩
 .exact⟨λu hu=>by(cases hu),.inl ⟨λu hu=>by(cases hu),λa b' e x hm=>by(cases hm),hn⟩⟩
 .rw[IT rfl]at hp;refine⟨λu hu=>?_,.inl ⟨λu hu=>by rw[Bq.1 hu],λa b' e x hm=>(DU hp hm).1,hn⟩⟩;rw[Bq.1 hu];exact⟨hL,λ_=>rfl,λq hq e=>by dsimp only at e;omega,λe=>by dsimp only at e;omega⟩
 subst hK2;subst hL2;clear h;have h:=hd;clear hd;have hp1':=hp1;rw[IT rfl]at hp1;obtain⟨s1,s2⟩:=Seq.append.1 hs;rw[AY]at hN;have hL1:=(CE b lo (1,b+13,0)).some hp1';obtain⟨i6,i7⟩:=(CE b lo (1,b+13,0)).places hp1' hL1 s1;have w1:oX b lo ⟨(1,b+13,0),at',L1,l,l1,some y⟩:=⟨hL1,λ_=>rfl,λq hq e=>by dsimp only at e;omega,λe=>by dsimp only at e;omega⟩;have SL:∀i,0<=i->i<32768->(i<lo+14\/lo+18<=i)->Ac l1 i=Ac l i:=λi g1 g2 g3=>hp1.keeps ⟨g1,g2⟩ (D8 J _)
 have PR:∀a b' e x,Item.acc a b' e x∈L1->b+13<=a.2.1:=λa b' e x hm=>(DU hp1 hm).1
 obtain⟨p,hp⟩:=gX (Df y);have pb:p=0\/p=1:=by rw[<-hp];exact Ep y
 rw[hp]at h;rcases h.Ed with⟨rfl,rfl,hn⟩|hd
 .exact⟨λu hu=>by rw[Bq.1 hu];exact w1,.inl ⟨λu hu=>by rw[Bq.1 hu],λa b' e x hm=>PR a b' e x (Cw hm),hn⟩⟩
 clear h;have h:=hd;clear hd;obtain⟨i,hi⟩:=gX (Df (Ac l1 (lo+p)));have ib:i=0\/i=1:=by rw[<-hi];exact Ep _
 have hi0:i=Df (Ac l (lo+p)):=by rw[<-hi,SL _ J J J]
 rw[hi]at h;rcases h.Ba with⟨rfl,rfl,hn⟩|⟨o1,rfl,hL,hp,hn1,hn⟩|⟨L3,L4,K4,l3,x0,hK4,hL4,hp2,hd⟩
 .exact⟨λu hu=>by rw[Bq.1 hu];exact w1,.inl ⟨λu hu=>by rw[Bq.1 hu],λa b' e x hm=>PR a b' e x (Cw hm),hn⟩⟩
 .exfalso;rw[Ge (by dsimp only;omega)]at hp;rcases hp.Ba with⟨e,_⟩|⟨b1,e1,x1,L5,_,hq⟩
  .exact hL e
  .exact hn1 x1 (hq.BV).2.1
 subst hK4;subst hL4;clear h;have h:=hd;clear hd;rw[Ge (by dsimp only;omega)]at hp2;obtain⟨db,de,x1,L5,hL5,hq2⟩:=hp2.EO;obtain⟨e5,hx0,e6⟩:=hq2.BV;subst e5;subst hL5;subst e6;clear hp2;have s2':=s2;obtain⟨s3,s4,s5⟩:=s2';change AM de L4<=N at hN;have AGC:=Seq.A7 (L:=L4) s5;have hlast:AM at' (L1++(.acc (2,b+(2*p+i),v) db de x1::L4))=AM de L4:=by rw[AY];rfl
 have w2:oX b lo ⟨(2,b+(2*p+i),v),AM at' L1,[.acc (2,b+(2*p+i),v) db de x1],l3,l3,some x0⟩:=⟨Az,λe=>by dsimp only at e;omega,λq hq e=>by dsimp only at e;omega,λe=>by dsimp only at e;omega⟩;have hrd:∀(K4:List Ch),∃c y',c∈(⟨(1,b+13,0),at',L1,l,l3,some y⟩:Ch)::K4/\c.a=(1,b+13,0)/\c.res=some y'/\c.fb=DR at' L1/\c.e N=AM at' L1/\p=Df y':=λK4=>⟨_,y,.head _,rfl,rfl,rfl,rfl,hp.symm⟩
 have f1:∀(c:tyI) (K4:List Ch),c≠b+13->(c<b\/b+4<=c)->((⟨(1,b+13,0),at',L1,l,l3,some y⟩:Ch)::⟨(2,b+(2*p+i),v),AM at' L1,[.acc (2,b+(2*p+i),v) db de x1],l3,l3,some x0⟩::K4).filter (λu=>D9 c u.a)=K4.filter λu=>D9 c u.a:=λc K4 g1 g2=>by
  rw[FY (by unfold D9;simp only[Fc];exact λe=>g1 e.symm),FY (by unfold D9;simp only[Fc];omega)]
 have hdat:∀(L4:List Item),(∀a b' e x,Item.acc a b' e x∈L4->b+4<=a.2.1)->∃x,∀a b' e y',(a.2.1<b+4/\Item.acc a b' e y'∈L1++(.acc (2,b+(2*p+i),v) db de x1::L4))↔(a=(2,b+(2*p+i),v)/\b'=db/\e=de/\y'=x):=λL4 g=>⟨x1,λa b' e y'=>by
  constructor
  .rintro⟨g1,g2⟩;rcases Cs.1 g2 with g2|g2
   .have:=PR a b' e y' g2;omega
   .rcases BJ.1 g2 with g2|g2
    .cases g2;exact⟨rfl,rfl,rfl,rfl⟩
    .have:=g a b' e y' g2;omega
  .rintro⟨rfl,rfl,rfl,rfl⟩
   exact⟨by dsimp only;omega,LF _ (.head _)⟩⟩
 have KK:∀(M:List Item),DR at' (L1++M)=DR at' L1:=λM=>Pt hL1
 have hit:∀a b' e x,Item.acc a b' e x∈L1->b+4<=a.2.1:=λa b' e x hm=>by have:=PR a b' e x hm;omega
 have early:K4=[]->L4=[]->(∀x,o'≠ .ret x)->∃o f,WOp b lo N v l l' at' (L1++(.acc (2,b+(2*p+i),v) db de x1::L4)) (⟨(1,b+13,0),at',L1,l,l3,some y⟩::⟨(2,b+(2*p+i),v),AM at' L1,[.acc (2,b+(2*p+i),v) db de x1],l3,l3,some x0⟩::K4) o' o f:=λe1 e2 hn=>by
  subst e1 e2;refine⟨⟨v,p,i,DR at' L1,AM at' L1,db,de,N,N,N,N⟩,false,rfl,hrd _,⟨i6,i7,s3,s4,hN,A9 _,A9 _,A9 _,A9 _⟩,hi0,λq hq=>?_,?_,λ_=> .inr (A9 _),hdat [] λa b' e x hm=>by(cases hm),λx e=>absurd e (hn x),KK _⟩
  .rw[f1 _ _ J J,AI (λq=>EL _ q.2)];rfl
  .rw[f1 _ _ J J];rfl
 rcases h.G7 with⟨g1,g2,hn⟩|hd
 .exact⟨λu hu=>by rw[g2]at hu;rcases BJ.1 hu with rfl|hu;exact w1;rw[Bq.1 hu];exact w2,.inr (early g2 g1 hn)⟩
 clear h;have h:=hd;clear hd;have gl:∀j,0<=j->j<32768->Ac (I4 l3 (lo+p) i) j=if lo+p=j then i else Ac l3 j:=λj q1 q2=>CG _ _ _ _ ⟨q1,q2⟩
 have hne:Ac (I4 l3 (lo+p) i) (lo+(2+4*p))≠i:=by
  rw[gl _ J J,AI J,SL _ J J J,hi0];unfold Df;rcases pb with rfl|rfl
  .simp only[Int.mul_zero,XD]at*;rw[h2];rcases h0 with e|e<;>rw[e]<;>simp
  .rw[show lo+(2+4*1)=lo+6 by omega,h3];rcases h1 with e|e<;>rw[e]<;>simp
 rcases QY h with⟨g1,g2,hn⟩|⟨e,_⟩|⟨_,⟨o1,g2,g3,g4,hn⟩|⟨L6,L7,K7,l6,x6,hK7,hL7,hp3,hd⟩⟩
 .exact⟨λu hu=>by rw[g2]at hu;rcases BJ.1 hu with rfl|hu;exact w1;rw[Bq.1 hu];exact w2,.inr (early g2 g1 hn)⟩
 .exact absurd e hne
 .subst g2
  have w3:oX b lo ⟨(2,b+(4+3*p),i),AM (AM at' L1) [.acc (2,b+(2*p+i),v) db de x1],L4,I4 l3 (lo+p) i,l',none⟩:=⟨g3,λe=>by dsimp only at e;omega,λq hq e=>⟨rfl,ib,by
   have:q=p:=by dsimp only at e;omega
   subst this;exact hne⟩,λe=>by dsimp only at e;omega⟩
  obtain⟨q1,q2⟩:=(CE b lo _).places g4 g3 s5;rw[Fj pb rfl]at g4;refine⟨λu hu=>?_,.inr ⟨⟨v,p,i,DR at' L1,AM at' L1,db,de,DR de L4,N,N,N⟩,false,rfl,hrd _,⟨i6,i7,s3,s4,BP q1,by dsimp only;omega,A9 _,A9 _,A9 _⟩,hi0,λq hq=>?_,?_,λ_=> .inr (A9 _),hdat _ λa b' e x hm=>by have:=(DU g4 hm).1;omega,λx e=>absurd e (hn x),KK _⟩⟩
  .rcases BJ.1 hu with rfl|hu
   .exact w1
   rcases BJ.1 hu with rfl|hu
   .exact w2
   .rw[Bq.1 hu];exact w3
  .rw[f1 _ _ J J];by_cases hpq:p=q
   .subst hpq;rw[AK ⟨rfl,by dsimp only;omega⟩,I2 (by unfold D9;simp)];rfl
   .rw[AI (λe=>hpq e.1),FY (by unfold D9;simp only[Fc];omega)];rfl
  .rw[f1 _ _ J J,FY (by unfold D9;simp only[Fc];omega)];rfl
 subst hK7;subst hL7;clear h;have h:=hd;clear hd
 have w3:oX b lo ⟨(2,b+(4+3*p),i),AM (AM at' L1) [.acc (2,b+(2*p+i),v) db de x1],L6,I4 l3 (lo+p) i,l6,some x6⟩:=⟨(CE b lo _).some hp3,λe=>by dsimp only at e;omega,λq hq e=>⟨rfl,ib,by
  have:q=p:=by dsimp only at e;omega
  subst this;exact hne⟩,λe=>by dsimp only at e;omega⟩
 obtain⟨s6,s7⟩:=Seq.append.1 (show Seq de (L6++L7)from s5);obtain⟨q1,q2⟩:=(CE b lo _).places hp3 ((CE b lo _).some hp3) s6;rw[Fj pb rfl]at hp3;rw[AY]at hN;have bK:AM at' (L1++(.acc (2,b+(2*p+i),v) db de x1::(L6++L7)))=AM (AM de L6) L7:=by rw[AY];exact AY de L6 L7
 have AGD:=Seq.A7 s7;have UW:∀j,0<=j->j<32768->(j<lo+(2+4*p)\/lo+(2+4*p)+4<=j)->Ac l6 j=Ac (I4 l3 (lo+p) i) j:=λj g1 g2 g3=>hp3.keeps ⟨g1,g2⟩ (D8 g3 _)
 have hset:Ac l6 (lo+(2+4*p))=i:=by
  unfold Ix at hp3;rw[AI (show¬(2:tyI)=1 by decide)]at hp3;exact Qv J hp3
 have e10:Ac l6 (lo+10)=Ac l (lo+10):=by rw[UW _ J J J,gl _ J J,AI J,SL _ J J J]
 have ep:Ac l6 (lo+p)=i:=by rw[UW _ J J J,gl _ J J,AK rfl]
 have ep1:Ac l6 (lo+(1-p))=Ac l (lo+(1-p)):=by rw[UW _ J J J,gl _ J J,AI J,SL _ J J J]
 have ep2:Ac l6 (lo+(2+4*(1-p)))=Ac l (lo+(2+4*(1-p))):=by rw[UW _ J J J,gl _ J J,AI J,SL _ J J J]
 have hc6:∀a b' e x,Item.acc a b' e x∈L6->b+4<=a.2.1:=λa b' e x hm=>by have:=(DU hp3 hm).1;omega
 have fS:∀(q:tyI) (K7:List Ch),(q=0\/q=1)->(∀u,u∈K7->u.a.2.1=b+10)->((⟨(1,b+13,0),at',L1,l,l3,some y⟩:Ch)::⟨(2,b+(2*p+i),v),AM at' L1,[.acc (2,b+(2*p+i),v) db de x1],l3,l3,some x0⟩::⟨(2,b+(4+3*p),i),AM (AM at' L1) [.acc (2,b+(2*p+i),v) db de x1],L6,I4 l3 (lo+p) i,l6,some x6⟩::K7).filter (λu=>D9 (b+(4+3*q)) u.a)=
   if p=q then[⟨(2,b+(4+3*p),i),AM (AM at' L1) [.acc (2,b+(2*p+i),v) db de x1],L6,I4 l3 (lo+p) i,l6,some x6⟩]else[]:=λq K7 hq hK=>by
  have e7:K7.filter (λu=>D9 (b+(4+3*q)) u.a)=[]:=Kt.2 λu hu=>by unfold D9;simp only[Fc];rw[hK u hu];omega
  rw[f1 _ _ J J];by_cases hpq:p=q
  .subst hpq;rw[AK rfl,I2 (by unfold D9;simp),e7]
  .rw[AI hpq,FY (by unfold D9;simp only[Fc];omega),e7]
 have fL:∀(K7:List Ch),(∀u,u∈K7->u.a.2.1=b+10)->((⟨(1,b+13,0),at',L1,l,l3,some y⟩:Ch)::⟨(2,b+(2*p+i),v),AM at' L1,[.acc (2,b+(2*p+i),v) db de x1],l3,l3,some x0⟩::⟨(2,b+(4+3*p),i),AM (AM at' L1) [.acc (2,b+(2*p+i),v) db de x1],L6,I4 l3 (lo+p) i,l6,some x6⟩::K7).filter (λu=>D9 (b+10) u.a)=K7:=λK7 hK=>by
  rw[f1 _ _ J J,FY (by unfold D9;simp only[Fc];omega)];exact mU.2 λu hu=>by unfold D9;simp only[Fc];exact hK u hu
 have wall:∀(K7:List Ch),(∀u,u∈K7->oX b lo u)->∀u,u∈((⟨(1,b+13,0),at',L1,l,l3,some y⟩:Ch)::⟨(2,b+(2*p+i),v),AM at' L1,[.acc (2,b+(2*p+i),v) db de x1],l3,l3,some x0⟩::⟨(2,b+(4+3*p),i),AM (AM at' L1) [.acc (2,b+(2*p+i),v) db de x1],L6,I4 l3 (lo+p) i,l6,some x6⟩::K7)->oX b lo u:=λK7 g u hu=>by
  rcases BJ.1 hu with rfl|hu
  .exact w1
  rcases BJ.1 hu with rfl|hu
  .exact w2
  rcases BJ.1 hu with rfl|hu
  .exact w3
  .exact g u hu
 have eN:AM de L6<=N:=J;rcases QY h with⟨rfl,rfl,hn⟩|⟨e,hd⟩|⟨hne2,⟨o1,rfl,g3,g4,hn⟩|⟨L8,L9,K9,l8,x8,hK9,hL9,dp,hd⟩⟩
 .refine⟨wall _ λu hu=>by(cases hu),.inr ⟨⟨v,p,i,DR at' L1,AM at' L1,db,de,DR de L6,AM de L6,N,N⟩,false,rfl,hrd _,⟨i6,i7,s3,s4,BP q1,BP q2,eN,A9 _,A9 _⟩,hi0,λq hq=>?_,?_,λ_=> .inr (A9 _),hdat _ λa b' e x hm=>hc6 a b' e x (Cw hm),λx e=>absurd e (hn x),KK _⟩⟩
  .rw[fS q _ hq λu hu=>by(cases hu)];have q2':DR de L6<N:=B5 q2 eN;by_cases hpq:p=q
   .rw[AK hpq,AK ⟨hpq,q2'⟩];rfl
   .rw[AI hpq,AI (λe=>hpq e.1)];rfl
  .rw[fL _ λu hu=>by(cases hu)];rfl
 .obtain⟨rfl,rfl,rfl,rfl⟩:=hd.BV;refine⟨wall _ λu hu=>by(cases hu),.inr ⟨⟨v,p,i,DR at' L1,AM at' L1,db,de,DR de L6,AM de L6,AM de L6,AM de L6⟩,false,rfl,hrd _,⟨i6,i7,s3,s4,BP q1,BP q2,A9 _,A9 _,eN⟩,hi0,λq hq=>?_,?_,λ_=> .inl (by rw[<-e10];exact e),hdat _ λa b' e x hm=>hc6 a b' e x (Cw hm),λx _=>⟨bK.symm,ep,hset,ep1,ep2,e⟩,KK _⟩⟩
  .rw[fS q _ hq λu hu=>by(cases hu)];have q2':DR de L6<N:=B5 q2 eN;by_cases hpq:p=q
   .rw[AK hpq,AK ⟨hpq,q2'⟩];rfl
   .rw[AI hpq,AI (λe=>hpq e.1)];rfl
  .rw[fL _ λu hu=>by(cases hu)];rfl
 .obtain⟨r1,r2⟩:=(CE b lo _).places g4 g3 s7;rw[Iq rfl]at g4;have w4:oX b lo ⟨(2,b+10,p),AM (AM (AM at' L1) [.acc (2,b+(2*p+i),v) db de x1]) L6,L7,l6,l',none⟩:=⟨g3,λe=>by dsimp only at e;omega,λq hq e=>by dsimp only at e;omega,λ_=>⟨rfl,pb,hne2⟩⟩;refine⟨wall _ λu hu=>by rw[Bq.1 hu];exact w4,.inr ⟨⟨v,p,i,DR at' L1,AM at' L1,db,de,DR de L6,AM de L6,DR (AM de L6) L7,N⟩,true,rfl,hrd _,⟨i6,i7,s3,s4,BP q1,BP q2,BP r1,by dsimp only;omega,A9 _⟩,hi0,λq hq=>?_,?_,λe=>by(cases e),hdat _ λa b' e x hm=>?_,λx e=>absurd e (hn x),KK _⟩⟩
  .rw[fS q _ hq λu hu=>by rw[Bq.1 hu]];have q2':DR de L6<N:=B5 q2 eN;by_cases hpq:p=q
   .rw[AK hpq,AK ⟨hpq,q2'⟩];rfl
   .rw[AI hpq,AI (λe=>hpq e.1)];rfl
  .rw[fL _ λu hu=>by rw[Bq.1 hu]];rfl
  .rcases Cs.1 (show Item.acc a b' e x∈L6++L7 from hm)with hm|hm
   .exact hc6 a b' e x hm
   .have:=(DU g4 hm).1;omega
 .obtain⟨rfl,rfl,rfl,rfl⟩:=hd.BV;subst hK9;subst hL9;rw[Jc]at s7 hN AGD bK|-;have ACD:=(CE b lo _).some dp;obtain⟨r1,r2⟩:=(CE b lo _).places dp ACD s7;rw[Iq rfl]at dp;have w4:oX b lo ⟨(2,b+10,p),AM (AM (AM at' L1) [.acc (2,b+(2*p+i),v) db de x1]) L6,L8,l6,l',some x8⟩:=⟨ACD,λe=>by dsimp only at e;omega,λq hq e=>by dsimp only at e;omega,λ_=>⟨rfl,pb,hne2⟩⟩;have dt:∀j,0<=j->j<32768->(j<lo+10\/lo+14<=j)->Ac l' j=Ac l6 j:=λj g1 g2 g3=>dp.keeps ⟨g1,g2⟩ (D8 J _)
  have ACE:Ac l' (lo+10)=p:=by
   unfold Ix at dp;rw[AI (show¬(2:tyI)=1 by decide)]at dp;exact Qv J dp
  refine⟨wall _ λu hu=>by rw[Bq.1 hu];exact w4,.inr ⟨⟨v,p,i,DR at' L1,AM at' L1,db,de,DR de L6,AM de L6,DR (AM de L6) L8,AM (AM de L6) L8⟩,true,rfl,hrd _,⟨i6,i7,s3,s4,BP q1,BP q2,BP r1,BP r2,hN⟩,hi0,λq hq=>?_,?_,λe=>by(cases e),hdat _ λa b' e x hm=>?_,λx _=>⟨bK.symm,?_,?_,?_,?_,ACE⟩,KK _⟩⟩
  .rw[fS q _ hq λu hu=>by rw[Bq.1 hu]];have q2':DR de L6<N:=B5 q2 eN;by_cases hpq:p=q
   .rw[AK hpq,AK ⟨hpq,q2'⟩];rfl
   .rw[AI hpq,AI (λe=>hpq e.1)];rfl
  .rw[fL _ λu hu=>by rw[Bq.1 hu]];rfl
  .rcases Cs.1 (show Item.acc a b' e x∈L6++L8 from hm)with hm|hm
   .exact hc6 a b' e x hm
   .have:=(DU dp hm).1;omega
  .dsimp only;rw[dt _ J J J];exact ep
  .dsimp only;rw[dt _ J J J];exact hset
  .dsimp only;rw[dt _ J J J];exact ep1
  .dsimp only;rw[dt _ J J J];exact ep2
def Kf:Int->Value:=λ_=> .tuple #[]
theorem ky(v:tyI):Df v=0\/Df v=1:=by unfold Df;split<;>simp
theorem j9(v:tyI):CT v=0\/CT v=1:=by unfold CT;split<;>simp
theorem aN(h:v=0\/v=1):CT v=v:=by rcases h with rfl|rfl<;>rfl
theorem OS(v:tyI)(w:tyW):Calls Tryz.prog 292 #[v] w λe w'=>e=BA (O (Df v))/\w'=w:=by
 unfold Df;by_cases h:v=0
 .subst h;go_enter Tryz.func292,Tryz.ntmps292
  go_wp2
  go_ret;exact⟨rfl,rfl⟩
 .have h2:(v==0)=false:=Dy.2 h;rw[AI h];go_enter Tryz.func292,Tryz.ntmps292
  go_wp2
  go_ret;exact⟨rfl,rfl⟩
theorem X6(v:tyI)(w:tyW):Calls Tryz.prog 280 #[v] w λe w'=>e=BA (O (CT v))/\w'=w:=by
 have HE:=I (show wrap64 (1-Df v)=CT v from by unfold Df CT;split<;>exact IntWalk.wrap64_in _ AQ);have HO:=I (λW=>OS v W);go_enter Tryz.func280,Tryz.ntmps280;go_wp2_with fail;refine(HO w).mono ?_;rintro e w1 ⟨rfl,rfl⟩;go_wp2_with fail;rw[HE];go_ret;exact⟨rfl,rfl⟩
theorem WB(p:tyI)(hp:p=0\/p=1)(w:tyW):Calls Tryz.prog 282 #[p] w λe w'=>e=BA p/\w'=w:=by
 have h0:∀w,(Instr.index 309 (.agg #[(),O 1]) ()).run Tryz.prog w= .ok () w:=λw=>Ay
 have h1:∀w,(Instr.index 309 (.agg #[(),O 1]) (O 1)).run Tryz.prog w= .ok (O 1) w:=λw=>Ay
 rcases hp with rfl|rfl
 iterate 2
  .go_enter Tryz.func282,Tryz.ntmps282
   go_wp2
   go_ret;exact⟨rfl,rfl⟩
theorem JI(k b lo n wr rd tp i:tyI)(w:tyW)(hb0:0<=b)(hb1:b<=1000000)(hl0:0<=lo)(hl1:lo<=1000000)(hi0:0<=i)(hi1:i<=3):
  Calls Tryz.prog 281 #[.agg #[k,b,lo,n,wr,rd,tp],i] w λe w'=>e=BA (.agg #[O 4,O (b+(4+3*i)),O (lo+(2+4*i)),n,wr,rd,O 1])/\Up w w':=by
 have x1:=(C0 (3*i) J J).1;have x2:=(C0 (4+3*i) J J).1;have x3:=(C0 (b+(4+3*i)) J J).1;have x4:=(C0 (4*i) J J).1;have x5:=(C0 (2+4*i) J J).1;have x6:=(C0 (lo+(2+4*i)) J J).1;clear hb0 hb1 hl0 hl1 hi0 hi1;go_enter Tryz.func281,Tryz.ntmps281;go_wp2_with fail;generalize b+(4+3*i)=b' at*;generalize lo+(2+4*i)=lo' at*;refine Gz (v:= .agg #[O 4,b',lo',n,wr,rd,O 1]) ?_ rfl ⟨rfl,((AV w).alloc _).alloc _⟩;have hs:(w.alloc (Y #[O 4,b',lo',n,wr,rd,O 1] 130)).heap.size=w.heap.size+1:=Az;have hb:=Ah (w.alloc (Y #[O 4,b',lo',n,wr,rd,O 1] 130)) (Y #[O 4,b',lo',n,wr,rd,O 1] 130);rw[hs]at hb;exact GV rfl _ _ (w.heap.size+1) 130 _ _ _ rfl hb Tryz.underlying130 rfl Ay
theorem T5(k b lo n wr rd tp p i:tyI)(w:tyW)(hb0:0<=b)(hb1:b<=1000000)(hp:p=0\/p=1)(hi:i=0\/i=1):
  Calls Tryz.prog 283 #[.agg #[k,b,lo,n,wr,rd,tp],p,i] w λe w'=>e=BA (O (b+(2*p+i)))/\Up w w':=by
 have x1:=(C0 (b+1) J J).1;have x2:=(C0 (b+2) J J).1;have x3:=(C0 (b+3) J J).1;have x0:=(C0 b J J).1;clear hb0 hb1;rcases hp with rfl|rfl<;>rcases hi with rfl|rfl
 iterate 4
  .go_enter Tryz.func283,Tryz.ntmps283;go_wp2_with fail;go_quiet(fail)
   go_wp2
   go_ret;refine⟨by simp[x0,x1,x2,x3],?_⟩;exact(((AV w).alloc _).alloc _).drewN _
theorem dL{c:tyI}:Ix b lo (1,c,x)=qM b lo:=AK rfl
theorem cy{c:tyI}:Ix b lo (2,c,v)=oY b lo v:=AI (by show¬(2:tyI)=1;decide)
theorem Wp{α:Type}(b lo v:tyI)(K:Op α):(Op.ask (2,b,v) λ_=> .set lo v (.get (lo+1) λg=> .ask (1,b+2,0) λy=>if y=g then .ask (2,b+1,wrap64 (1-g)) λ_=> .set (lo+1) (wrap64 (1-g)) (.ret ())else .ret ()):Op Unit).bind (λ_=>K)=(oY b lo v).bind λ_=>K:=by
 show Op.ask _ _=Op.ask _ _;congr 1;funext _;show Op.set _ _ _=Op.set _ _ _;congr 1;show Op.get _ _=Op.get _ _;congr 1;funext g;show Op.ask _ _=Op.ask _ _;congr 1;funext y;show(if _ then _ else _:Op Unit).bind _=(if _ then _ else _:Op Int).bind _;split<;>rfl
theorem lu{k:Op Int}{R:Option Int×TS}(hf:f (2,b,v)=oY b lo v)(hv:CT v=v)(hE:((lZ b lo v k).sub f).BH s=R):((yk b lo v).bind λ_=>k.sub f).BH s=R:=by
 rw[<-hE];unfold yk;rw[hv];show((if s.get lo=v then(.ret ():Op Unit)else _).bind _).BH s=((if s.get lo=v then k else .ask (2,b,v) λ_=>k).sub f).BH s;split
 .rfl
 .show _=((f (2,b,v)).bind λ_=>k.sub f).BH s;rw[hf,<-Wp]
theorem KV{α:Type}{k:Int->Op α}{R:Option α×TS}(hf:f a=o)(hE:((Op.ask a k).sub f).BH s=R):(o.bind λx=>(k x).sub f).BH s=R:=by
 subst hf;exact hE
theorem tJ{α:Type}{k:Int->Op α}{R:Option α×TS}(hE:((Op.get i k).sub f).BH s=R):(Op.get i λx=>(k x).sub f).BH s=R:=hE
theorem AAi{α:Type}{k:Op α}{R:Option α×TS}(hE:((Op.set i v k).sub f).BH s=R):(Op.set i v (k.sub f)).BH s=R:=hE
theorem uy{α:Type}{k:Int->Op α}{R:Option α×TS}(hf:f a= .ask a .ret)(hE:((Op.ask a k).sub f).BH s=R):(Op.ask a λx=>(k x).sub f).BH s=R:=KV hf hE
theorem Rr(k b lo n wr rd tp c:tyI)(g B:tyN)(s:TS)(w:tyW)(h:AX w g B s)(hb0:0<=b)(hb1:b<=900000)(hl0:0<=lo)(hl1:lo<=900000):
  Calls Tryz.prog 255 #[pT g,.agg #[k,b,lo,n,wr,rd,tp]] w (AP encI g B w ((SR b lo (1,c,0)).BH s)):=by
 obtain⟨W0,hW,HT,HU,-,HS⟩:=Cr h k b lo n wr rd tp;obtain⟨R,hR⟩:=gX ((SR b lo (1,c,0)).BH s);rw[hR];have HE:=I (KV ((Iq rfl).trans dL) (show((rG b lo).sub (Pd b lo)).BH s=R from hR));have HB2:=I (λW=>JI k b lo n wr rd tp 2 W hb0 J hl0 J AQ AQ);have HB3:=I (λW=>JI k b lo n wr rd tp 3 W hb0 J hl0 J AQ AQ);rw[show b+(4+3*2)=b+10 by omega,show lo+(2+4*2)=lo+10 by omega]at HB2;rw[show b+(4+3*3)=b+13 by omega,show lo+(2+4*3)=lo+14 by omega]at HB3;have HB:=I (λp (hp:p=0\/p=1) W=>JI k b lo n wr rd tp p W hb0 J hl0 J J J);have HC:=I (λp i hp hi W=>T5 k b lo n wr rd tp p i W hb0 J hp hi);have HTR:=I (λ(j l:tyI) (hj:0<=j/\j<=20) (hl:0<=l/\l<=20) s W (ht:AX W g B s)=>Ml 4 (b+j) (lo+l) n wr rd 1 g B s W ht J J J J);have xa:=I (λ(j l v:tyI) (hj:0<=j/\j<=20) (hl:0<=l/\l<=20) s W (ht:AX W g B s)=>Mo 4 (b+j) (lo+l) n wr rd 1 v g B s W ht J J J J);clear hR h hb0 hb1 hl0 hl1;obtain⟨⟨c0,c1,c2,c3⟩,c4,c5,c6⟩:=HS W0 (TK.refl g B W0);go_enter Tryz.func255,Tryz.ntmps255;go_wp2_with fail;refine(HB2 _).mono ?_;rintro e w1 ⟨rfl,hu1⟩;have HT1:=I (HT.up hu1);have ie:=I (TK.Bp (g:=g) (B:=B) hu1);clear c0 c1 c2 c3 c4 c5 c6 hu1 HT HB2;go_wp2_with fail;refine(Aw (HTR 10 10 AQ AQ s w1 HT1) HE).mono ?_;rintro e w2 (⟨s2,rfl,H2,J2,E2⟩|⟨y,s2,rfl,H2,J2,E2⟩)
 .go_wp2
  exact⟨rfl,AP.none E2.out ⟨rfl,H2,HU.trans (ie.trans J2.out)⟩⟩
 unfold encI;have Kq:=I (ie.trans J2.out);clear HT1 ie J2 HE;go_wp2_with fail;refine(X6 y w2).mono ?_;rintro e _ ⟨rfl,rfl⟩;obtain⟨⟨c0,c1,c2,c3⟩,c4,c5,c6⟩:=HS _ Kq;have HP:=I (j9 y);have E3:=I (lu ((IT rfl).trans cy) (aN HP) E2.out);clear E2;generalize CT y=p at*;go_wp2_with fail;refine(HB3 _).mono ?_;rintro e w3 ⟨rfl,hu3⟩;have H3:=I (H2.up hu3);have ic:=I (Kq.trans (TK.Bp hu3));clear c0 c1 c2 c3 c4 c5 c6 hu3 H2 Kq HB3;go_wp2_with fail;refine(Aw (xa 13 14 p AQ AQ s2 w3 H3) E3.out).mono ?_;rintro e w4 (⟨s4,rfl,H4,J4,E4⟩|⟨_,s4,rfl,H4,J4,E4⟩)
 .go_wp2
  exact⟨rfl,AP.none E4.out ⟨rfl,H4,HU.trans (ic.trans J4.out)⟩⟩
 unfold Mq;have oh:=I (ic.trans J4.out);have E5:=I (KV ((Fj HP rfl).trans dL) E4.out);clear H3 ic J4 E3 E4 xa;go_wp2_with fail;have HD4:=I (H4.up (AV _).drew);have KD4:=I oh.drew;clear H4 oh;refine Br (S:=Ji w.heap.size k b lo n wr rd tp) Ay (HS _ KD4.out) (λhH0=>?_);refine tk 0 hH0 ?_
 try simp only[pS]
 refine tk 1 hH0 ?_
 try simp only[pS]
 refine tk 2 hH0 ?_
 try simp only[pS]
 refine ry 3 (λK hK=>?_);go_simp;refine(WB p HP _).mono ?_;rintro e _ ⟨rfl,rfl⟩;refine bk hK hH0 λhH1=>?_
 refine ry 4 (λK hK=>?_);go_simp;refine(HB p HP _).mono ?_;rintro e w5 ⟨rfl,OK⟩;have H5:=I (HD4.up OK);have MC:=I (KD4.out.trans (TK.Bp OK));clear OK HD4 KD4;refine bk hK (HS _ MC) λhH2=>?_
 refine ry 5 (λK hK=>?_);go_simp;refine(Aw (HTR (4+3*p) (2+4*p) (by have:=HP.out;omega) (by have:=HP.out;omega) _ _ H5) E5.out).mono ?_;rintro e w6 (⟨s6,rfl,H6,J6,E6⟩|⟨z,s6,rfl,H6,J6,E6⟩)
 .dsimp only;clear hK K
  go_wp2
  exact⟨rfl,AP.none E6.out ⟨rfl,H6,HU.trans (MC.trans J6.out)⟩⟩
 unfold encI;have M6:=I (MC.trans J6.out);clear H5 MC J6 E5;refine bk hK (HS _ M6) λhH3=>?_
 refine ry 6 (λK hK=>?_);go_simp;refine(X6 z _).mono ?_;rintro e _ ⟨rfl,rfl⟩;refine bk hK hH3 λVp=>?_
 refine tk 7 Vp ?_;refine dz ?_
 try simp only[pS,Gi,Gg,GX]
 have HI:=I (j9 z);have E7:=I (show(Op.ask (1,b+(2*p+CT z),0) λx=>Op.ret x).BH s6=R from KV (Ge (by show b+(2*p+CT z)<b+4;have:=HP.out;have:=HI.out;omega)) E6.out);obtain⟨⟨c0,c1,c2,c3⟩,c4,c5,c6⟩:=HS _ M6;clear E6 hH0 hH1 hH2 hH3 Vp HB;generalize CT z=i at*;go_wp2_with fail;refine(HC p i HP HI _).mono ?_;rintro e w7 ⟨rfl,Qd⟩;have H7:=I (H6.up Qd);have Yo:=I (M6.trans (TK.Bp Qd));clear c0 c1 c2 c3 c4 c5 c6 Qd H6 M6;go_wp2_with fail;refine(Eg H7 E7.out).mono ?_;rintro e w8 (⟨s8,rfl,H8,J8,E8⟩|⟨x,s8,rfl,H8,J8,E8⟩)
 .go_wp2
  exact⟨rfl,AP.none E8.out ⟨rfl,H8,HU.trans (Yo.trans J8.out)⟩⟩
 unfold encI
 go_wp2
 go_ret;exact AP.some E8.out.symm ⟨rfl,H8,HU.trans (Yo.trans J8.out)⟩
theorem Mg(k b lo n wr rd tp c v:tyI)(g B:tyN)(s:TS)(w:tyW)(h:AX w g B s)(hb0:0<=b)(hb1:b<=900000)(hl0:0<=lo)(hl1:lo<=900000):
  Calls Tryz.prog 261 #[pT g,.agg #[k,b,lo,n,wr,rd,tp],v] w (AP Kf g B w ((SR b lo (2,c,v)).BH s)):=by
 obtain⟨W0,hW,HT,HU,-,HS⟩:=Cr h k b lo n wr rd tp;obtain⟨R,hR⟩:=gX ((SR b lo (2,c,v)).BH s);rw[hR];have HE:=I (KV ((IT rfl).trans dL) (show((qp b lo v).sub (Pd b lo)).BH s=R from hR));have HB2:=I (λW=>JI k b lo n wr rd tp 2 W hb0 J hl0 J AQ AQ);have HB3:=I (λW=>JI k b lo n wr rd tp 3 W hb0 J hl0 J AQ AQ);rw[show b+(4+3*2)=b+10 by omega,show lo+(2+4*2)=lo+10 by omega]at HB2;rw[show b+(4+3*3)=b+13 by omega,show lo+(2+4*3)=lo+14 by omega]at HB3;have HB:=I (λp (hp:p=0\/p=1) W=>JI k b lo n wr rd tp p W hb0 J hl0 J J J);have HC:=I (λp i hp hi W=>T5 k b lo n wr rd tp p i W hb0 J hp hi);have HTR:=I (λ(j l:tyI) (hj:0<=j/\j<=20) (hl:0<=l/\l<=20) s W (ht:AX W g B s)=>Ml 4 (b+j) (lo+l) n wr rd 1 g B s W ht J J J J);have xa:=I (λ(j l v:tyI) (hj:0<=j/\j<=20) (hl:0<=l/\l<=20) s W (ht:AX W g B s)=>Mo 4 (b+j) (lo+l) n wr rd 1 v g B s W ht J J J J);have HL:=I (λp (hp:p=0\/p=1)=>(C0 (lo+p) J J).1);clear hR h hb0 hb1 hl0 hl1;obtain⟨⟨c0,c1,c2,c3⟩,c4,c5,c6⟩:=HS W0 (TK.refl g B W0);go_enter Tryz.func261,Tryz.ntmps261;go_wp2_with fail;refine(HB3 _).mono ?_;rintro e w1 ⟨rfl,hu1⟩;have HT1:=I (HT.up hu1);have ie:=I (TK.Bp (g:=g) (B:=B) hu1);clear c0 c1 c2 c3 c4 c5 c6 hu1 HT HB3;go_wp2_with fail;refine(Aw (HTR 13 14 AQ AQ s w1 HT1) HE).mono ?_;rintro e w2 (⟨s2,rfl,H2,J2,E2⟩|⟨y,s2,rfl,H2,J2,E2⟩)
 .go_wp2
  exact⟨rfl,AP.none E2.out ⟨rfl,H2,HU.trans (ie.trans J2.out)⟩⟩
 unfold encI;have Kq:=I (ie.trans J2.out);clear HT1 ie J2 HE HTR;go_wp2_with fail;refine(OS y w2).mono ?_;rintro e _ ⟨rfl,rfl⟩;obtain⟨⟨c0,c1,c2,c3⟩,c4,c5,c6⟩:=HS _ Kq;have HP:=I (ky y);have E3:=I (tJ E2.out);clear E2;generalize Df y=p at*;have hlp:=HL p HP;go_wp2_with fail;refine(EN H2 E3.out).mono ?_;rintro e _ ⟨x,rfl,rfl,E4⟩;go_wp2_with fail;refine(OS x _).mono ?_;rintro e _ ⟨rfl,rfl⟩;have HI:=I (ky x);have E5:=I (uy (Ge (by show b+(2*p+Df x)<b+4;have:=HP.out;have:=HI.out;omega)) E4.out);clear E3 E4;generalize Df x=i at*;go_wp2_with fail;refine(HC p i HP HI _).mono ?_;rintro e w5 ⟨rfl,OK⟩;have H5:=I (H2.up OK);have MC:=I (Kq.trans (TK.Bp OK));clear c0 c1 c2 c3 c4 c5 c6 OK H2 Kq;go_wp2_with fail;refine(Ho (k:=λ_=>_) H5 E5.out).mono ?_;rintro e w6 (⟨s6,rfl,H6,J6,E6⟩|⟨_,s6,rfl,H6,J6,E6⟩)
 .go_wp2
  exact⟨rfl,AP.none E6.out ⟨rfl,H6,HU.trans (MC.trans J6.out)⟩⟩
 unfold Mq;have M6:=I (MC.trans J6.out);have E7:=I (AAi E6.out);clear H5 MC J6 E5 E6;obtain⟨⟨c0,c1,c2,c3⟩,c4,c5,c6⟩:=HS _ M6;go_wp2_with fail;refine(Ff H6 E7.out).mono ?_;rintro e w7 ⟨rfl,s7,H7,J7,E8⟩;have Yo:=I (M6.trans J7.out);have E9:=I (lu ((Fj HP rfl).trans cy) (aN HI) E8.out);clear H6 M6 J7 E7 E8 c0 c1 c2 c3 c4 c5 c6 hlp;go_wp2_with fail;have HD7:=I (H7.up (AV _).drew);have uV:=I Yo.drew;clear H7 Yo;refine Br (S:=Ji w.heap.size k b lo n wr rd tp) Ay (HS _ uV.out) (λhH0=>?_);refine tk 0 hH0 ?_
 try simp only[pS]
 refine tk 1 hH0 ?_
 try simp only[pS]
 refine tk 2 hH0 ?_
 try simp only[pS]
 refine tk 5 hH0 ?_
 try simp only[pS]
 refine ry 3 (λK hK=>?_);go_simp;refine(WB p HP _).mono ?_;rintro e _ ⟨rfl,rfl⟩;refine bk hK hH0 λhH1=>?_
 refine ry 4 (λK hK=>?_);go_simp;refine(HB p HP _).mono ?_;rintro e w8 ⟨rfl,Vs⟩;have H8:=I (HD7.up Vs);have HK8:=I (uV.out.trans (TK.Bp Vs));clear Vs HD7 uV;refine bk hK (HS _ HK8) λhH2=>?_
 refine ry 6 (λK hK=>?_);go_simp;refine(Aw (xa (4+3*p) (2+4*p) i (by have:=HP.out;omega) (by have:=HP.out;omega) _ _ H8) E9.out).mono ?_;rintro e w9 (⟨s9,rfl,H9,J9,uW⟩|⟨_,s9,rfl,H9,J9,uW⟩)
 .dsimp only;clear hK K
  go_wp2
  exact⟨rfl,AP.none uW.out ⟨rfl,H9,HU.trans (HK8.trans J9.out)⟩⟩
 unfold Mq;have SF:=I (HK8.trans J9.out);have xX:=I (lu ((Iq rfl).trans cy) (aN HP) uW.out);clear H8 HK8 J9 E9 uW;refine bk hK (HS _ SF) λhH3=>?_
 refine dz ?_
 try simp only[pS,Gi,Gg,GX]
 clear hH0 hH1 hH2 hH3 HB;obtain⟨⟨c0,c1,c2,c3⟩,c4,c5,c6⟩:=HS _ SF;go_wp2_with fail;refine(HB2 _).mono ?_;rintro e w10 ⟨rfl,Vt⟩;have H10:=I (H9.up Vt);have ACG:=I (SF.trans (TK.Bp Vt));clear c0 c1 c2 c3 c4 c5 c6 Vt H9 SF;go_wp2_with fail;refine(Aw (xa 10 10 p AQ AQ _ _ H10) xX.out).mono ?_;rintro e w11 (⟨s11,rfl,H11,J11,pA⟩|⟨_,s11,rfl,H11,J11,pA⟩)
 .go_wp2
  exact⟨rfl,AP.none pA.out ⟨rfl,H11,HU.trans (ACG.trans J11.out)⟩⟩
 unfold Mq;go_wp2_with fail
 go_end0
 exact AP.some (v:=(0:tyI)) pA.out.symm ⟨rfl,H11,HU.trans (ACG.trans J11.out)⟩
theorem DE.vu{α:Type}(hf:∀a,CA (f a)){o o':Op α}{lo:tyN}(h:DE f o l lo L K o' l'):L=[]->K=[]:=by
 induction h with
 |nil=>exact λ_=>rfl
 |get _ ih=>exact ih
 |set _ ih=>exact ih
 |live _ ih=>exact ih
 |note p _ ih=>exact λe=>by cases e
 |ask h1 _ ih=>
  intro e;rw[List.append_eq_nil_iff]at e;exact absurd e.1 ((hf _).some h1)
 |stop h1 hn h0=>exact λe=>absurd e h0
theorem py{lo:tyN}(hs:Seq lo L)(h1:N<=lo)(h2:AM lo L<=N):L=[]:=by
 cases L with
 |nil=>rfl
 |cons i L=>
  cases i with
  |note k p=>
   have:=Seq.A7 (L:=L) hs.2;have h3:=hs.1;change AM p L<=N at h2;omega
  |acc a b e x=>
   have:=Seq.A7 (L:=L) hs.2.2;have h3:=hs.1;have h4:=hs.2.1;change AM e L<=N at h2;omega
structure ROp (b lo:tyI)(N:tyN)(l l':tyL)(at':tyN)(L:List Item)(K:List Ch)(o':Op Int)(r:He)(f:Bool):Prop where
 mL:∃c y,c∈K/\c.a=(1,b+10,0)/\c.res=some y/\c.fb=r.lb/\c.e N=r.le/\r.p=CT y
 O7:at'<r.lb/\r.lb<r.le/\r.le<N/\r.le<=r.rb/\r.rb<=r.re/\r.re<=r.sb/\r.sb<=r.se/\r.se<=r.db/\r.db<=r.de/\r.de<=N
 i:r.i=0\/r.i=1
 rdg:(K.filter λu=>D9 (b+13) u.a).map (Ch.wr N)=if f=true then[⟨r.p,r.rb,r.re⟩]else[]
 AFC:f=false->Ac l (lo+14)=r.p\/N<=r.rb
 slot:r.se<N->∃c z,c∈K/\c.a=(1,b+(4+3*r.p),0)/\c.res=some z/\c.fb=r.sb/\c.e N=r.se/\r.i=CT z
 data:r.de<N->r.se<N/\r.db<r.de/\Item.acc (1,b+(2*r.p+r.i),0) r.db r.de r.x∈L
 fin:∀x,o'= .ret x->r.de=AM at' L/\r.x=x/\Ac l' (lo+14)=r.p
 fb:DR at' L=r.lb
def jN (b lo:tyI)(u:Ch):Prop:=u.its≠[]/\(u.a.2.1=b+13->u.a.1=2/\(u.a.2.2=0\/u.a.2.2=1)/\Ac u.l (lo+14)≠u.a.2.2)/\(∀q,(q=0\/q=1)->u.a.2.1=b+(4+3*q)->u.a.1=1)/\(u.a.2.1=b+10->u.a.1=1)
theorem WO(hlo:0<=lo/\lo+18<=32768)(h:DE (Pd b lo) (rG b lo) l at' L K o' l')(hs:Seq at' L)(hN:AM at' L<=N):
  (∀u,u∈K->jN b lo u)/\(∀a b' e x,Item.acc a b' e x∈L->a.2.1<b+4->a.1=1)/\(((∀u,u∈K->u.a=(1,b+10,0))/\∀x,o'≠ .ret x)\/∃r f,ROp b lo N l l' at' L K o' r f):=by
 unfold rG at h;rcases h.Ba with⟨rfl,rfl,hn⟩|⟨o1,rfl,hL,hp,hn1,hn⟩|⟨L1,L2,K2,l1,y,hK2,hL2,hp1,hd⟩
 .exact⟨λu hu=>by(cases hu),λa b' e x hm=>by(cases hm),.inl ⟨λu hu=>by(cases hu),hn⟩⟩
 .rw[Iq rfl]at hp;refine⟨λu hu=>?_,λa b' e x hm hc=>?_,.inl ⟨λu hu=>by rw[Bq.1 hu],hn⟩⟩
  .rw[Bq.1 hu];exact⟨hL,λe=>by dsimp only at e;omega,λq hq e=>by dsimp only at e;omega,λ_=>rfl⟩
  .have:=(DU hp hm).1;omega
 subst hK2;subst hL2;clear h;have hp1':=hp1;rw[Iq rfl]at hp1;obtain⟨s1,s2⟩:=Seq.append.1 hs;rw[AY]at hN;have hL1:=(CE b lo (1,b+10,0)).some hp1';obtain⟨i6,i7⟩:=(CE b lo (1,b+10,0)).places hp1' hL1 s1;have w1:jN b lo ⟨(1,b+10,0),at',L1,l,l1,some y⟩:=⟨hL1,λe=>by dsimp only at e;omega,λq hq e=>by dsimp only at e;omega,λ_=>rfl⟩;have SL:∀i,0<=i->i<32768->(i<lo+10\/lo+14<=i)->Ac l1 i=Ac l i:=λi g1 g2 g3=>hp1.keeps ⟨g1,g2⟩ (D8 J _)
 have PR:∀a b' e x,Item.acc a b' e x∈L1->b+10<=a.2.1:=λa b' e x hm=>(DU hp1 hm).1
 have sI:∀a b' e x,Item.acc a b' e x∈L1->a.2.1<b+4->a.1=1:=λa b' e x hm hc=>by have:=PR a b' e x hm;omega
 obtain⟨p,hp⟩:=gX (CT y);have pb:p=0\/p=1:=by rw[<-hp];exact IA y
 rw[hp]at hd;have hle2:=Seq.A7 s2;rcases CR (AM at' L1) N with hlt|hge
 rotate_left
 .have e2:=py s2 hge hN;subst e2;have e3:=hd.vu (CE b lo) rfl;subst e3
  have hn:∀x,o'≠ .ret x:=λx e=>by
   rcases QY hd with⟨_,_,hn⟩|⟨_,hd⟩|⟨_,⟨_,e,_⟩|⟨L3,L4,K4,l3,x3,e,_⟩⟩
   .exact hn x e
   .rcases hd.Ba with⟨_,_,hn⟩|⟨_,e,_⟩|⟨_,_,_,_,_,e,_⟩
    .exact hn x e
    .cases e
    .cases e
   .cases e
   .cases e
  exact⟨λu hu=>by rw[Bq.1 hu];exact w1,by rw[Jc];exact sI,.inl ⟨λu hu=>by rw[Bq.1 hu],hn⟩⟩
 have hlat:∀(K:List Ch),∃c y',c∈(⟨(1,b+10,0),at',L1,l,l1,some y⟩:Ch)::K/\c.a=(1,b+10,0)/\c.res=some y'/\c.fb=DR at' L1/\c.e N=AM at' L1/\p=CT y':=λK=>⟨_,y,.head _,rfl,rfl,rfl,rfl,hp.symm⟩
 have f13:∀(K:List Ch),((⟨(1,b+10,0),at',L1,l,l1,some y⟩:Ch)::K).filter (λu=>D9 (b+13) u.a)=K.filter λu=>D9 (b+13) u.a:=λK=>by
  rw[FY (by unfold D9;simp only[Fc];omega)]
 have KK:∀(M:List Item),DR at' (L1++M)=DR at' L1:=λM=>Pt hL1
 have tail:∀(K0:List Ch) (M0:List Item) (l2:tyL) (at2:tyN) (K:List Ch) (L:List Item) (rb re:tyN) (f:Bool),DE (Pd b lo) (.ask (1,b+(4+3*p),0) λz=> .ask (1,b+(2*p+CT z),0) .ret) l2 at2 L K o' l'->Seq at2 L->AM at2 L<=N->AM at' L1<=rb->rb<=re->re<=at2->Ac l2 (lo+14)=p->AM at' (L1++(M0++L))=AM at2 L->
   (K0.filter λu=>D9 (b+13) u.a).map (Ch.wr N)=(if f=true then[⟨p,rb,re⟩]else[])->(f=false->Ac l (lo+14)=p\/N<=rb)->(∀u,u∈K0->jN b lo u)->(∀a b' e x,Item.acc a b' e x∈M0->a.2.1<b+4->a.1=1)->
   (∀u,u∈(⟨(1,b+10,0),at',L1,l,l1,some y⟩:Ch)::(K0++K)->jN b lo u)/\(∀a b' e x,Item.acc a b' e x∈L1++(M0++L)->a.2.1<b+4->a.1=1)/\(((∀u,u∈(⟨(1,b+10,0),at',L1,l,l1,some y⟩:Ch)::(K0++K)->u.a=(1,b+10,0))/\∀x,o'≠ .ret x)\/
    ∃r f,ROp b lo N l l' at' (L1++(M0++L)) ((⟨(1,b+10,0),at',L1,l,l1,some y⟩:Ch)::(K0++K)) o' r f):=λK0 M0 l2 at2 K L rb re f hd hs hN o1 o2 o3 g14 hlast k13 kI kW kD=>by
  have hat:=Seq.A7 hs
  have sJ:∀K,(∀u,u∈K->u.a.2.1<b+10)->(((⟨(1,b+10,0),at',L1,l,l1,some y⟩:Ch)::(K0++K)).filter λu=>D9 (b+13) u.a).map (Ch.wr N)=(if f=true then[⟨p,rb,re⟩]else[]):=λK hK=>by
   rw[f13,IV,Gu,k13,Kt.2 λu hu=>by unfold D9;simp only[Fc];have:=hK u hu;omega];exact Jc _
  have wk:∀K:List Ch,(∀u,u∈K->jN b lo u)->∀u,u∈(⟨(1,b+10,0),at',L1,l,l1,some y⟩:Ch)::(K0++K)->jN b lo u:=λK g u hu=>by
   rcases BJ.1 hu with rfl|hu
   .exact w1
   rcases Cs.1 hu with hu|hu
   .exact kW u hu
   .exact g u hu
  have wd:∀L:List Item,(∀a b' e x,Item.acc a b' e x∈L->a.2.1<b+4->a.1=1)->∀a b' e x,Item.acc a b' e x∈L1++(M0++L)->a.2.1<b+4->a.1=1:=λL g a b' e x hm=>by
   rcases Cs.1 hm with hm|hm
   .exact sI a b' e x hm
   rcases Cs.1 hm with hm|hm
   .exact kD a b' e x hm
   .exact g a b' e x hm
  rcases hd.Ba with⟨rfl,rfl,hn⟩|⟨o5,rfl,hL,hp3,hn1,hn⟩|⟨L3,L4,K4,l3,z,hK4,hL4,hp3,hd2⟩
  .exact⟨wk _ λu hu=>by(cases hu),wd _ λa b' e x hm=>by(cases hm),.inr ⟨⟨p,0,0,DR at' L1,AM at' L1,rb,re,N,N,N,N⟩,f,hlat _,⟨i6,i7,hlt,o1,o2,by change at2<=N at hN;exact DB o3 hN,A9 _,A9 _,A9 _,A9 _⟩,.inl rfl,sJ [] λu hu=>by(cases hu),kI,λe=>absurd e (EL _),λe=>absurd e (EL _),λx e=>absurd e (hn x),KK _⟩⟩
  .obtain⟨r1,r2⟩:=(CE b lo _).places hp3 hL hs;rw[Fj pb rfl]at hp3;have w3:jN b lo ⟨(1,b+(4+3*p),0),at2,L,l2,l',none⟩:=⟨hL,λe=>by dsimp only at e;omega,λq hq e=>rfl,λe=>by dsimp only at e;omega⟩;exact⟨wk _ λu hu=>by rw[Bq.1 hu];exact w3,wd _ λa b' e x hm hc=>by have:=(DU hp3 hm).1;omega,.inr ⟨⟨p,0,0,DR at' L1,AM at' L1,rb,re,N,N,N,N⟩,f,hlat _,⟨i6,i7,hlt,o1,o2,by dsimp only;omega,A9 _,A9 _,A9 _,A9 _⟩,.inl rfl,sJ _ λu hu=>by rw[Bq.1 hu];dsimp only;omega,kI,λe=>absurd e (EL _),λe=>absurd e (EL _),λx e=>absurd e (hn x),KK _⟩⟩
  subst hK4;subst hL4;have ACI:=(CE b lo _).some hp3;obtain⟨s3,s4⟩:=Seq.append.1 hs;obtain⟨r1,r2⟩:=(CE b lo _).places hp3 ACI s3;rw[Fj pb rfl]at hp3;rw[AY]at hN;have AGC:=Seq.A7 s4;have w3:jN b lo ⟨(1,b+(4+3*p),0),at2,L3,l2,l3,some z⟩:=⟨ACI,λe=>by dsimp only at e;omega,λq hq e=>rfl,λe=>by dsimp only at e;omega⟩;have UW:Ac l3 (lo+14)=Ac l2 (lo+14):=hp3.keeps J (D8 J _);have ACJ:∀a b' e x,Item.acc a b' e x∈L3->a.2.1<b+4->a.1=1:=λa b' e x hm hc=>by have:=(DU hp3 hm).1;omega
  have ib:=IA z;have UX:∀K4:List Ch,∃c z',c∈(⟨(1,b+10,0),at',L1,l,l1,some y⟩:Ch)::(K0++⟨(1,b+(4+3*p),0),at2,L3,l2,l3,some z⟩::K4)/\c.a=(1,b+(4+3*p),0)/\c.res=some z'/\c.fb=DR at2 L3/\c.e N=AM at2 L3/\CT z=CT z':=λK4=>⟨_,z,kC _ (LF _ (.head _)),rfl,rfl,rfl,rfl,rfl⟩
  rcases hd2.Ba with⟨rfl,rfl,hn⟩|⟨o5,rfl,hL,dp,hn1,hn⟩|⟨L5,L6,K6,l5,x,hK6,hL6,dp,hd3⟩
  .refine⟨wk _ λu hu=>by rw[Bq.1 hu];exact w3,wd _ (by rw[Jc];exact ACJ),.inr ⟨⟨p,CT z,0,DR at' L1,AM at' L1,rb,re,DR at2 L3,AM at2 L3,N,N⟩,f,hlat _,⟨i6,i7,hlt,o1,o2,by dsimp only;omega,BP r2,hN,A9 _,A9 _⟩,ib,sJ _ λu hu=>by rw[Bq.1 hu];dsimp only;omega,kI,λ_=>UX _,λe=>absurd e (EL _),λx e=>absurd e (hn x),KK _⟩⟩
  .exfalso;rw[Ge (by dsimp only;omega)]at dp;rcases dp.Ba with⟨e,_⟩|⟨b1,e1,x1,L7,_,hq⟩
   .exact hL e
   .exact hn1 x1 (hq.BV).2.1
  subst hK6;subst hL6;obtain⟨rfl,rfl,rfl,rfl⟩:=hd3.BV;rw[Ge (by dsimp only;omega)]at dp;obtain⟨db,de,x1,L7,hL7,hq⟩:=dp.EO;obtain⟨e5,hx,e6⟩:=hq.BV;subst e5;subst hL7;have hxe:x1=x:=(Op.ret.inj hx).symm;subst hxe;have w4:jN b lo ⟨(1,b+(2*p+CT z),0),AM at2 L3,[.acc (1,b+(2*p+CT z),0) db de x1],l3,l',some x1⟩:=⟨Az,λe=>by dsimp only at e;omega,λq hq e=>by dsimp only at e;omega,λe=>by dsimp only at e;omega⟩;have t1:AM at2 L3<db:=s4.1;have t2:db<de:=s4.2.1;change de<=N at hN;refine⟨wk _ λu hu=>?_,wd _ λa b' e x hm hc=>?_,.inr ⟨⟨p,CT z,x1,DR at' L1,AM at' L1,rb,re,DR at2 L3,AM at2 L3,db,de⟩,f,hlat _,⟨i6,i7,hlt,o1,o2,by dsimp only;omega,BP r2,BP t1,BP t2,hN⟩,ib,sJ _ λu hu=>?_,kI,λ_=>UX _,λ_=>⟨by dsimp only;omega,t2,?_⟩,λx e=>⟨?_,?_,?_⟩,KK _⟩⟩
  .rcases BJ.1 hu with rfl|hu
   .exact w3
   .rw[Bq.1 hu];exact w4
  .rcases Cs.1 hm with hm|hm
   .exact ACJ a b' e x hm hc
   .have:a=(1,b+(2*p+CT z),0):=by simp at hm;exact hm.1
    rw[this]
  .rcases BJ.1 hu with rfl|hu
   .dsimp only;omega
   .rw[Bq.1 hu];dsimp only;omega
  .exact LF _ (LF _ (LF _ Az))
  .rw[hlast,AY];rfl
  .exact Op.ret.inj e
  .rw[e6,UW,g14]
 rcases QY hd with⟨rfl,rfl,hn⟩|⟨e,hd2⟩|⟨hne,⟨o1,rfl,g3,g4,hn⟩|⟨L3,L4,K4,l3,x3,rfl,rfl,hp2,hd2⟩⟩
 .exact⟨λu hu=>by rw[Bq.1 hu];exact w1,by rw[Jc];exact sI,.inr ⟨⟨p,0,0,DR at' L1,AM at' L1,N,N,N,N,N,N⟩,false,hlat _,⟨i6,i7,hlt,BP hlt,A9 _,A9 _,A9 _,A9 _,A9 _,A9 _⟩,.inl rfl,by rw[f13];rfl,λ_=> .inr (A9 _),λe=>absurd e (EL _),λe=>absurd e (EL _),λx e=>absurd e (hn x),KK _⟩⟩
 .exact tail [] [] l1 (AM at' L1) K2 L2 (AM at' L1) (AM at' L1) false hd2 s2 hN (A9 _) (A9 _) (A9 _) e (AY _ _ _) rfl (λ_=> .inl (by rw[<-SL _ J J J];exact e)) (λu hu=>by(cases hu)) λa b' e x hm=>by(cases hm)
 .obtain⟨r1,r2⟩:=(CE b lo _).places g4 g3 s2;rw[IT rfl]at g4;have w2:jN b lo ⟨(2,b+13,p),AM at' L1,L2,l1,l',none⟩:=⟨g3,λ_=>⟨rfl,pb,hne⟩,λq hq e=>by dsimp only at e;omega,λe=>by dsimp only at e;omega⟩;refine⟨λu hu=>?_,λa b' e x hm hc=>?_,.inr ⟨⟨p,0,0,DR at' L1,AM at' L1,DR (AM at' L1) L2,N,N,N,N,N⟩,true,hlat _,⟨i6,i7,hlt,BP r1,by dsimp only;omega,A9 _,A9 _,A9 _,A9 _,A9 _⟩,.inl rfl,?_,λe=>by(cases e),λe=>absurd e (EL _),λe=>absurd e (EL _),λx e=>absurd e (hn x),KK _⟩⟩
  .rcases BJ.1 hu with rfl|hu
   .exact w1
   .rw[Bq.1 hu];exact w2
  .rcases Cs.1 hm with hm|hm
   .exact sI a b' e x hm hc
   .have:=(DU g4 hm).1;omega
  .rw[f13,I2 (by unfold D9;simp)];rfl
 .have hne2:=(CE b lo _).some hp2;obtain⟨s3,s4⟩:=Seq.append.1 s2;obtain⟨r1,r2⟩:=(CE b lo _).places hp2 hne2 s3;rw[IT rfl]at hp2;rw[AY]at hN;have w2:jN b lo ⟨(2,b+13,p),AM at' L1,L3,l1,l3,some x3⟩:=⟨hne2,λ_=>⟨rfl,pb,hne⟩,λq hq e=>by dsimp only at e;omega,λe=>by dsimp only at e;omega⟩
  have hset:Ac l3 (lo+14)=p:=by
   have xc:=hp2;unfold Ix at xc;rw[AI (show¬(2:tyI)=1 by decide)]at xc;exact Qv J xc
  exact tail [_] L3 l3 (AM (AM at' L1) L3) K4 L4 (DR (AM at' L1) L3) (AM (AM at' L1) L3) true hd2 s4 hN (BP r1) (BP r2) (A9 _) hset (by rw[AY,AY]) (by rw[I2 (by unfold D9;simp)];rfl) (λe=>by(cases e)) (λu hu=>by rw[Bq.1 hu];exact w2) λa b' e x hm hc=>by have:=(DU hp2 hm).1;omega
def part (c:tyI)(W:List (Ch×List Ch)):List Ch:=(W.flatMap Prod.snd).filter λu=>D9 c u.a
theorem By(c:tyI)(p:Ch×List Ch)(W:List (Ch×List Ch)):part c (p::W)=(p.2.filter λu=>D9 c u.a)++part c W:=by
 unfold part;rw[It,IV]
def yi (N:tyN):Nat->Int->Int->Int->List (Em×Bool)->Prop
 |_,_,_,_,[]=>True
 |lo,s0,s1,g,p::os=>(lo<p.1.yb/\p.1.yb<p.1.ye/\p.1.ye<p.1.db/\p.1.db<p.1.de/\p.1.de<=p.1.sb/\p.1.sb<=p.1.se/\p.1.se<=p.1.lb/\p.1.lb<=p.1.le/\p.1.le<=N)/\(p.1.p=0\/p.1.p=1)/\p.1.i=Df (if p.1.p=0 then s0 else s1)/\(p.2=false->p.1.p=g\/N<=p.1.lb)/\
  yi N p.1.le (if p.1.p=0 then p.1.i else s0) (if p.1.p=0 then s1 else p.1.i) p.1.p os
structure sq (b lo:tyI)(N:tyN)(W:List (Ch×List Ch))(os:List (Em×Bool)):Prop where
 slot:∀q,(q=0\/q=1)->(part (b+(4+3*q)) W).map (Ch.wr N)=(os.filter λo=>decide (o.1.p=q/\o.1.sb<N)).map λo=>⟨o.1.i,o.1.sb,o.1.se⟩
 mL:(part (b+10) W).map (Ch.wr N)=(os.filter λo=>o.2).map λo=>⟨o.1.p,o.1.lb,o.1.le⟩
 rd:∀o,o∈os->∃y,B6 N (part (b+13) W) o.1.yb o.1.ye y/\o.1.p=Df y
 dat:∀u,u∈W.map Prod.fst->∀a b' e x,Item.acc a b' e x∈u.its->a.2.1<b+4->∃o,o∈os/\a=(2,b+(2*o.1.p+o.1.i),o.1.v)/\b'=o.1.db/\e=o.1.de
 zl:∀o,o∈os->∃u x,u∈W.map Prod.fst/\Item.acc (2,b+(2*o.1.p+o.1.i),o.1.v) o.1.db o.1.de x∈u.its
 fin:∀(k:tyN) (u:Ch),(W.map Prod.fst)[k]?=some u->u.e N<N->∃o,os[k]?=some o/\o.1.le=u.e N
 back:∀(k:tyN) (o:Em×Bool),os[k]?=some o->∃u,(W.map Prod.fst)[k]?=some u/\o.1.v=u.a.2.2/\o.1.yb=u.fb
 ch:∀u,u∈W.flatMap Prod.snd->oX b lo u
theorem Hd{U AF:List Ch}{b:tyN}(h:B6 N U b e x):B6 N (U++AF) b e x:=by
 obtain⟨u,h1,h2⟩:=h;exact⟨u,P3 _ h1,h2⟩
theorem Jw{U AF:List Ch}{b:tyN}(h:B6 N AF b e x):B6 N (U++AF) b e x:=by
 obtain⟨u,h1,h2⟩:=h;exact⟨u,LF _ h1,h2⟩
theorem XI{b lo:tyI}(hlo:0<=lo/\lo+18<=32768){RG:Int->Prop}(hrg:∀i,lo<=i->i<lo+18->RG i){N:tyN}:∀(W:List (Ch×List Ch)) {at':tyN} {σ:Int->Int},Bk (SR b lo) RG N at' σ (W.map Prod.fst)->
  (∀u K,(u,K)∈W->∃o' l',DE (Pd b lo) (cf b lo u.a) u.l u.lo u.its K o' l'/\∀v,u.res=some v->o'= .ret v/\l'=u.l')->(∀u,u∈W.map Prod.fst->u.a.1=2)->
  (σ lo=0\/σ lo=1)->(σ (lo+1)=0\/σ (lo+1)=1)->σ (lo+2)=σ lo->σ (lo+6)=σ (lo+1)->∃os,yi N at' (σ lo) (σ (lo+1)) (σ (lo+10)) os/\sq b lo N W os
 |[],at',σ,h,hd,hk,h0,h1,h2,h3=>⟨[],trivial,⟨λq hq=>rfl,rfl,λo ho=>by(cases ho),λu hu=>by(cases hu),λo ho=>by(cases ho),λk u h=>by simp at h,λk o h=>by simp at h,λu hu=>by(cases hu)⟩⟩
 |(u,K)::W,at',σ,h,hd,hk,h0,h1,h2,h3=>by
  obtain⟨g1,g2,g3,g4,g5,g6,g7⟩:=h;obtain⟨o',l',d,hdone⟩:=hd u K (.head _);have gl:∀j,lo<=j->j<lo+18->Ac u.l j=σ j:=λj q1 q2=>g4 j (hrg j q1 q2)
  have e0:=gl lo J J;have e1:=gl (lo+1) J J;have e2:=gl (lo+2) J J;have e6:=gl (lo+6) J J;have e10:=gl (lo+10) J J;have hku:=hk u (.head _);unfold cf at d;rw[AI (by rw[hku];decide)]at d;obtain⟨hch,hor⟩:=j7 hlo (N:=N) d g2 g3 (by rw[e0];exact h0) (by rw[e1];exact h1) (by rw[e2,e0];exact h2) (by rw[e6,e1];exact h3);rcases hor with⟨c1,c2,hn⟩|⟨o,f,ho⟩
  .have hres:u.res=none:=by
    cases e:u.res with
    |none=>rfl
    |some v=>exact absurd (hdone v e).1 (hn v)
   have hW:W=[]:=by
    have:=g6 hres;cases W with
    |nil=>rfl
    |cons a b=>cases this
   subst hW
   have Jb:∀c,c≠b+13->part c [(u,K)]=[]:=λc hc=>by
    rw[By,Kt.2 λv hv=>by unfold D9;simp only[Fc];rw[c1 v hv];exact λe=>hc e.symm];rfl
   refine⟨[],trivial,⟨λq hq=>by rw[Jb _ J];rfl,by rw[Jb _ J];rfl,λo ho=>by(cases ho),λv hv a b' e x hm hlt=>?_,λo ho=>by(cases ho),λk v hv hlt=>?_,λk o h=>by simp at h,λv hv=>?_⟩⟩
   .have:v=u:=by simpa using hv
    subst this;have:=c2 a b' e x hm;omega
   .exfalso;have hk0:k=0:=by have:=(Be.1 hv).1;simpa using this
    subst hk0;have:v=u:=by simp at hv;exact hv.symm
    subst this;unfold Ch.e at hlt;rw[hres]at hlt;exact EL _ hlt
   .have:v∈K:=by simpa using hv
    exact hch v this
  .obtain⟨x1,hdata⟩:=ho.data;have pb:o.p=0\/o.p=1:=by obtain⟨c,y,_,_,_,_,_,q⟩:=ho.rd;rw[q];exact Ep y
   have hoi:o.i=Df (if o.p=0 then σ lo else σ (lo+1)):=by
    rw[ho.i];rcases pb with q|q
    .rw[q,AK rfl,XD,e0]
    .rw[q,AI AQ,e1]
   have hib:o.i=0\/o.i=1:=by rw[ho.i];exact Ep _
   have hlat:f=false->o.p=σ (lo+10)\/N<=o.lb:=λe=>(ho.AEz e).imp (λq=>by rw[<-e10,q]) id
   have rest:∃os,yi N o.le (if o.p=0 then o.i else σ lo) (if o.p=0 then σ (lo+1)else o.i) o.p os/\sq b lo N W os:=by
    cases hres:u.res with
    |none=>
     have hW:W=[]:=by
      have:=g6 hres;cases W with
      |nil=>rfl
      |cons a b=>cases this
     subst hW;exact⟨[],trivial,⟨λq hq=>rfl,rfl,λo ho=>by(cases ho),λu hu=>by(cases hu),λo ho=>by(cases ho),λk u h=>by simp at h,λk o h=>by simp at h,λu hu=>by(cases hu)⟩⟩
    |some v=>
     obtain⟨q1,q2⟩:=hdone v hres;obtain⟨r1,r2,r3,r4,r5,r6⟩:=ho.fin v q1;rw[q2]at r2 r3 r4 r5 r6;rw[r1]
     have t0:Ac u.l' lo=if o.p=0 then o.i else σ lo:=by
      rcases pb with q|q
      .rw[q]at r2;rw[AK q];rw[XD]at r2;exact r2
      .rw[q]at r4;rw[AI J];rw[<-e0];simpa using r4
     have t1:Ac u.l' (lo+1)=if o.p=0 then σ (lo+1)else o.i:=by
      rcases pb with q|q
      .rw[q]at r4;rw[AK q];rw[<-e1];simpa using r4
      .rw[q]at r2;rw[AI J];exact r2
     have t2:Ac u.l' (lo+2)=if o.p=0 then o.i else σ (lo+2):=by
      rcases pb with q|q
      .rw[q]at r3;rw[AK q];simpa using r3
      .rw[q]at r5;rw[AI J,<-e2];simpa using r5
     have t6:Ac u.l' (lo+6)=if o.p=0 then σ (lo+6)else o.i:=by
      rcases pb with q|q
      .rw[q]at r5;rw[AK q,<-e6];simpa using r5
      .rw[q]at r3;rw[AI J];simpa using r3
     have b0:Ac u.l' lo=0\/Ac u.l' lo=1:=by
      rw[t0];split
      .exact hib
      .exact h0
     have b1:Ac u.l' (lo+1)=0\/Ac u.l' (lo+1)=1:=by
      rw[t1];split
      .exact h1
      .exact hib
     obtain⟨os,w1,w2⟩:=XI hlo hrg W g7 (λu K hm=>hd u K (.tail _ hm)) (λu hu=>hk u (.tail _ hu)) b0 b1 (by rw[t0,t2,h2]) (by rw[t1,t6,h3]);rw[t0,t1,r6]at w1;exact⟨os,w1,w2⟩
   obtain⟨os,w1,w2⟩:=rest;have S6:=ho.O7;refine⟨(o,f)::os,⟨⟨Ro g1 S6.1,S6.2⟩,pb,hoi,hlat,w1⟩,⟨λq hq=>?_,?_,λp hp=>?_,λv hv a b' e x hm hlt=>?_,λp hp=>?_,λk v hv hlt=>?_,λk p hp=>?_,λv hv=>?_⟩⟩
   .rw[By,Gu,ho.slot q hq,w2.slot q hq];by_cases hc:o.p=q/\o.sb<N
    .rw[AK hc,I2 (by exact Fi hc)];rfl
    .rw[AI hc,FY (by simp only[Fc];exact hc)];rfl
   .rw[By,Gu,ho.mL,w2.mL];cases f with
    |true=>rw[AK rfl,I2 (by rfl)];rfl
    |false=>rw[AI Az,FY Az];rfl
   .rw[By];rcases BJ.1 hp with rfl|hp
    .obtain⟨c,y,q1,q2,q3,q4,q5,q6⟩:=ho.rd;exact⟨y,Hd ⟨c,Db.2 ⟨q1,by unfold D9;rw[q2];simp⟩,q4,q5,q3,by show o.ye<N;omega⟩,q6⟩
    .obtain⟨y,q1,q2⟩:=w2.rd p hp;exact⟨y,Jw q1,q2⟩
   .rcases BJ.1 (show v∈u::W.map Prod.fst from hv)with rfl|hv
    .obtain⟨q1,q2,q3,q4⟩:=(hdata a b' e x).1 ⟨hlt,hm⟩;exact⟨(o,f),.head _,by rw[q1,<-ho.val],q2,q3⟩
    .obtain⟨p,q1,q2⟩:=w2.dat v hv a b' e x hm hlt;exact⟨p,.tail _ q1,q2⟩
   .rcases BJ.1 hp with rfl|hp
    .have:=(hdata (2,b+(2*o.p+o.i),o.v) o.db o.de x1).2 ⟨by rw[ho.val],rfl,rfl,rfl⟩;exact⟨u,x1,.head _,this.2⟩
    .obtain⟨v,x,q1,q2⟩:=w2.zl p hp;exact⟨v,x,.tail _ q1,q2⟩
   .cases k with
    |zero=>
     have:v=u:=by simp at hv;exact hv.symm
     subst this;refine⟨(o,f),rfl,?_⟩;cases hres:v.res with
     |none=>unfold Ch.e at hlt;rw[hres]at hlt;exact absurd hlt (EL _)
     |some x=>
      have:=(ho.fin x (hdone x hres).1).1;unfold Ch.e;rw[hres];exact this
    |succ k=>exact w2.fin k v (Cw hv) hlt
   .cases k with
    |zero=>
     have:p=(o,f):=by simp at hp;exact hp.symm
     subst this;exact⟨u,rfl,ho.val,ho.fb.symm⟩
    |succ k=>exact w2.back k p (Cw hp)
   .rcases Cs.1 (show v∈K++W.flatMap Prod.snd from hv)with hv|hv
    .exact hch v hv
    .exact w2.ch v hv
def yl (N:tyN):Nat->Int->List (He×Bool)->Prop
 |_,_,[]=>True
 |lo,g,p::rs=>(lo<p.1.lb/\p.1.lb<p.1.le/\p.1.le<N/\p.1.le<=p.1.rb/\p.1.rb<=p.1.re/\p.1.re<=p.1.sb/\p.1.sb<=p.1.se/\p.1.se<=p.1.db/\p.1.db<=p.1.de/\p.1.de<=N)/\(p.1.p=0\/p.1.p=1)/\(p.1.i=0\/p.1.i=1)/\(p.2=false->p.1.p=g\/N<=p.1.rb)/\yl N p.1.de p.1.p rs
structure tC (b lo:tyI)(N:tyN)(W:List (Ch×List Ch))(rs:List (He×Bool)):Prop where
 rdg:(part (b+13) W).map (Ch.wr N)=(rs.filter λr=>r.2).map λr=>⟨r.1.p,r.1.rb,r.1.re⟩
 mL:∀r,r∈rs->∃y,B6 N (part (b+10) W) r.1.lb r.1.le y/\r.1.p=CT y
 slot:∀r,r∈rs->r.1.se<N->∃z,B6 N (part (b+(4+3*r.1.p)) W) r.1.sb r.1.se z/\r.1.i=CT z
 data:∀r,r∈rs->r.1.de<N->r.1.se<N/\r.1.db<r.1.de/\∃u,u∈W.map Prod.fst/\Item.acc (1,b+(2*r.1.p+r.1.i),0) r.1.db r.1.de r.1.x∈u.its
 fin:∀(k:tyN) (u:Ch),(W.map Prod.fst)[k]?=some u->u.e N<N->∀x,u.res=some x->∃r,rs[k]?=some r/\r.1.de=u.e N/\r.1.lb=u.fb/\r.1.x=x
 nod:∀u,u∈W.map Prod.fst->∀a b' e x,Item.acc a b' e x∈u.its->a.2.1<b+4->a.1=1
 ch:∀u,u∈W.flatMap Prod.snd->jN b lo u
theorem YV{b lo:tyI}(hlo:0<=lo/\lo+18<=32768){RG:Int->Prop}(hrg:∀i,lo<=i->i<lo+18->RG i){N:tyN}:∀(W:List (Ch×List Ch)) {at':tyN} {σ:Int->Int},Bk (SR b lo) RG N at' σ (W.map Prod.fst)->
  (∀u K,(u,K)∈W->∃o' l',DE (Pd b lo) (cf b lo u.a) u.l u.lo u.its K o' l'/\∀v,u.res=some v->o'= .ret v/\l'=u.l')->(∀u,u∈W.map Prod.fst->u.a.1=1)->∃rs,yl N at' (σ (lo+14)) rs/\tC b lo N W rs
 |[],at',σ,h,hd,hk=>⟨[],trivial,⟨rfl,λo ho=>by(cases ho),λu hu=>by(cases hu),λo ho=>by(cases ho),λk u h=>by simp at h,λu hu=>by(cases hu),λu hu=>by(cases hu)⟩⟩
 |(u,K)::W,at',σ,h,hd,hk=>by
  obtain⟨g1,g2,g3,g4,g5,g6,g7⟩:=h;obtain⟨o',l',d,hdone⟩:=hd u K (.head _);have e14:Ac u.l (lo+14)=σ (lo+14):=g4 _ (hrg _ J J);have hku:=hk u (.head _);unfold cf at d;rw[AK hku]at d;obtain⟨hch,ACK,hor⟩:=WO hlo (N:=N) d g2 g3;rcases hor with⟨c1,hn⟩|⟨r,f,hr⟩
  .have hres:u.res=none:=by
    cases e:u.res with
    |none=>rfl
    |some v=>exact absurd (hdone v e).1 (hn v)
   have hW:W=[]:=by
    have:=g6 hres;cases W with
    |nil=>rfl
    |cons a b=>cases this
   subst hW;refine⟨[],trivial,⟨?_,λo ho=>by(cases ho),λo ho=>by(cases ho),λo ho=>by(cases ho),λk v hv hlt x hx=>?_,λv hv a b' e x hm hlt=>?_,λv hv=>?_⟩⟩
   .rw[By,Kt.2 λv hv=>by unfold D9;simp only[Fc];rw[c1 v hv];dsimp only;omega];rfl
   .exfalso;have hk0:k=0:=by have:=(Be.1 hv).1;simpa using this
    subst hk0;have:v=u:=by simp at hv;exact hv.symm
    subst this;rw[hres]at hx;cases hx
   .have:v=u:=by simpa using hv
    subst this;exact ACK a b' e x hm hlt
   .have:v∈K:=by simpa using hv
    exact hch v this
  .have pb:r.p=0\/r.p=1:=by obtain⟨c,y,_,_,_,_,_,q⟩:=hr.mL;rw[q];exact IA y
   have hrI:f=false->r.p=σ (lo+14)\/N<=r.rb:=λe=>(hr.AFC e).imp (λq=>by rw[<-e14,q]) id
   have rest:∃rs,yl N r.de r.p rs/\tC b lo N W rs:=by
    cases hres:u.res with
    |none=>
     have hW:W=[]:=by
      have:=g6 hres;cases W with
      |nil=>rfl
      |cons a b=>cases this
     subst hW;exact⟨[],trivial,⟨rfl,λo ho=>by(cases ho),λu hu=>by(cases hu),λo ho=>by(cases ho),λk u h=>by simp at h,λu hu=>by(cases hu),λu hu=>by(cases hu)⟩⟩
    |some v=>
     obtain⟨q1,q2⟩:=hdone v hres;obtain⟨r1,r2,r3⟩:=hr.fin v q1;rw[q2]at r3;obtain⟨rs,w1,w2⟩:=YV hlo hrg W g7 (λu K hm=>hd u K (.tail _ hm)) (λu hu=>hk u (.tail _ hu));rw[r3]at w1;rw[r1];exact⟨rs,w1,w2⟩
   obtain⟨rs,w1,w2⟩:=rest;have S6:=hr.O7;refine⟨(r,f)::rs,⟨⟨Ro g1 S6.1,S6.2⟩,pb,hr.i,hrI,w1⟩,⟨?_,λp hp=>?_,λp hp hlt=>?_,λp hp hlt=>?_,λk v hv hlt x hx=>?_,λv hv a b' e x hm hlt=>?_,λv hv=>?_⟩⟩
   .rw[By,Gu,hr.rdg,w2.rdg];cases f with
    |true=>rw[AK rfl,I2 (by rfl)];rfl
    |false=>rw[AI Az,FY Az];rfl
   .rw[By];rcases BJ.1 hp with rfl|hp
    .obtain⟨c,y,q1,q2,q3,q4,q5,q6⟩:=hr.mL;exact⟨y,Hd ⟨c,Db.2 ⟨q1,by unfold D9;rw[q2];simp⟩,q4,q5,q3,by show r.le<N;exact S6.2.2.1⟩,q6⟩
    .obtain⟨y,q1,q2⟩:=w2.mL p hp;exact⟨y,Jw q1,q2⟩
   .rw[By];rcases BJ.1 hp with rfl|hp
    .obtain⟨c,z,q1,q2,q3,q4,q5,q6⟩:=hr.slot hlt;exact⟨z,Hd ⟨c,Db.2 ⟨q1,by unfold D9;rw[q2];simp⟩,q4,q5,q3,hlt⟩,q6⟩
    .obtain⟨y,q1,q2⟩:=w2.slot p hp hlt;exact⟨y,Jw q1,q2⟩
   .rcases BJ.1 hp with rfl|hp
    .obtain⟨q1,q2,q3⟩:=hr.data hlt;exact⟨q1,q2,u,.head _,q3⟩
    .obtain⟨q1,q2,v,q3,q4⟩:=w2.data p hp hlt;exact⟨q1,q2,v,.tail _ q3,q4⟩
   .cases k with
    |zero=>
     have:v=u:=by simp at hv;exact hv.symm
     subst this;have:=hr.fin x (hdone x hx).1;exact⟨(r,f),rfl,by unfold Ch.e;rw[hx];exact this.1,hr.fb.symm,this.2.1⟩
    |succ k=>exact w2.fin k v (Cw hv) hlt x hx
   .rcases BJ.1 (show v∈u::W.map Prod.fst from hv)with rfl|hv
    .exact ACK a b' e x hm hlt
    .exact w2.nod v hv a b' e x hm hlt
   .rcases Cs.1 (show v∈K++W.flatMap Prod.snd from hv)with hv|hv
    .exact hch v hv
    .exact w2.ch v hv
end
end Go.Proofs.YtpodgcpkccpnfaaGreat
