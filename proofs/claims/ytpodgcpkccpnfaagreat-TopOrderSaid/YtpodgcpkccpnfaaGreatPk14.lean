import Derived.Test.YtpodgcpkccpnfaaGreatPk13
set_option linter.unusedVariables false
set_option linter.unusedSimpArgs false
set_option maxRecDepth 20000
set_option maxHeartbeats 40000000
namespace Go.Proofs.YtpodgcpkccpnfaaGreat
variable{AW base room:Int}{evs:List D6}{l:List SD}{sc:MN}{B b i m me n t:Nat}{S1:WD}{W w wY:World}
section
open Go.RowKit
theorem Dv:(Tryz.prog.info? 113).map (λi=>(i.zero,i.size,i.bytes))=some (some (.agg #[sN,(),sN,sN,(),(),(),(),(),(),false]),11,136):=Ay
def Qa (pv:tyV):List Value:=[pv,.int .i64 0,.slice none 0 0,.slice none 0 0,.int .i64 0,.int .i64 0,.int .i64 0,.int .i64 0,.int .i64 0,.int .i64 0,.bool false]
def JN:Value:=sN
structure lX (W1 wr:tyW)(b h:tyN)(ov dv:tyV)(AH:List (List CD))(tv:tyV)(Bj:List Value):Prop where
 below:Below b W1 wr
 blk:BR wr b #[ov,pT h,tv,dv,(),()] 108
 row:wr.ownsRow (b+1) 113 11 tv Bj.length (Bj.flatMap Qa)
 pr:∀i,i<Bj.length->CM wr (b+1) (Bj.getD i JN) (AH.getD i [])/\∀k,(Bj.getD i JN).ownBlock=some k->tv.ownBlock≠some k
structure vG (Sd:World->Value->Prop)(w w':tyW)(sc:MN)(l:List SD)(b h B:tyN)(X:Nat->Prop)(ov dv tv:tyV)(Bj:List Value):Prop where
 up:Up w w'
 Bw:w.heap.size<=B
 Bb:B<=b
 Dc:ED w' B h l bs0 0 X
 VO:∀k,X k->k<b
 ob:Sd w' ov
 oq:∀q n c,ov=BG q 0 n c->q<B
 pM:w'.ownsRow B 3 1 dv sc.draws.length (Aj sc.draws)
 dq:∀k,dv.ownBlock=some k->¬X k/\k<b
 len:Bj.length=sc.AH.length
 blk:BR w' b #[ov,pT h,tv,dv,(),()] 108
 row:w'.ownsRow (b+1) 113 11 tv Bj.length (Bj.flatMap Qa)
 pr:∀i,i<Bj.length->CM w' (b+1) (Bj.getD i JN) (sc.AH.getD i [])/\∀k,(Bj.getD i JN).ownBlock=some k->tv.ownBlock≠some k
def km (Sd:World->Value->Prop)(w:tyW)(sc:MN)(l:List SD)(e:Ending)(w':tyW):Prop:= ∃(b h B:tyN) (X:Nat->Prop) (ov dv tv:tyV) (Bj:List Value),e=BA (.tuple #[pT b,()])/\vG Sd w w' sc l b h B X ov dv tv Bj
theorem LP{α:Type}(l:List α)(x d:α)(h:i<l.length):(l++[x]).getD i d=l.getD i d:=by
 rw[gD,gD,IC h]
theorem LC{α:Type}(l:List α)(x d:α):(l++[x]).getD l.length d=x:=by
 rw[gD,Gb (A9 _),VN];rfl
theorem lX.push{W1 wr wc w5:tyW}{h:tyN}{ov dv:tyV}{AH:List (List CD)}{tv pv:tyV}{Bj:List Value}{g5 cap5:tyN}(H:lX W1 wr b h ov dv AH tv Bj)(hu:Up wr.drew wc)(hp:CM wc wr.heap.size pv (AH.getD Bj.length []))
  (hown:w5.ownsRow (b+1) 113 11 (BG g5 0 (Bj.length+1) cap5) (Bj.length+1) (Bj.flatMap Qa++Qa pv))
  (hg:(wc.alloc (Y (Qa pv).toArray 113)).grownBy w5 tv.ownBlock) (hat:tv.ownBlock=some g5\/g5=(wc.alloc (Y (Qa pv).toArray 113)).heap.size):
  lX W1 (w5.setCell (aD b 2) (BG g5 0 (Bj.length+1) cap5)) b h ov dv AH (BG g5 0 (Bj.length+1) cap5) (Bj++[pv]):=by
 have hbl:=(gE H.blk).1;have hsz:wr.heap.size<=wc.heap.size:=hu.size;have hs1:(wc.alloc (Y (Qa pv).toArray 113)).heap.size=wc.heap.size+1:=Az;have hu1:Up wr (wc.alloc (Y (Qa pv).toArray 113)):=((AV wr).drew.trans hu).trans ((AV wc).alloc _);have V0:∀k,tv.ownBlock=some k->b+1<=k/\k<wr.heap.size:=λk e=>H.row.lt k e
 have hk5:∀k,k<(wc.alloc (Y (Qa pv).toArray 113)).heap.size->tv.ownBlock≠some k->w5.heap[k]?=(wc.alloc (Y (Qa pv).toArray 113)).heap[k]?:=λk hk hne=>hg.block k hk (λe=>hne e.symm)
 have hb5:hSM w5 wr b:=(hk5 b J (λe=>by have:=V0 b e;omega)).trans (hu1.block b hbl);have hset:∀k,k≠b->hSM (w5.setCell (aD b 2) (BG g5 0 (Bj.length+1) cap5)) w5 k:=λk hk=>BF w5 ⟨b,2,none⟩ _ k hk
 refine⟨?_,?_,?_,λi hi=>?_⟩
 .refine C5 (p:=aD b 2) ?_ (A9 _) _;refine H.below.trans ((KX hu1 (BP hbl)).trans ?_);exact KX (grownBy_below hg J λk e=>(V0 k e).1) (N9 b)
 .exact AT (hb5.trans H.blk) 2 _
 .have e:(Bj++[pv]).flatMap Qa=Bj.flatMap Qa++Qa pv:=by rw[Y8];simp
  rw[e,Gx,IN];exact AS hown λk e=>hset k (λe2=>by have:=(hown.lt k e).1;omega)
 .rw[Gx,IN]at hi;rcases CR i Bj.length with hlt|hge
  .rw[LP _ _ _ hlt];obtain⟨h1,h2⟩:=H.pr i hlt;refine⟨AS h1 λk e=>?_,λk e e2=>?_⟩
   .have hkl:=h1.lt k e;exact(hset k J).trans ((hk5 k J (h2 k e)).trans (hu1.block k hkl.2))
   .have hkl:=h1.lt k e;have e3:g5=k:=by cases e2;rfl
    rcases hat with q|q
    .exact h2 k e (by rw[q,e3])
    .omega
  .have hie:i=Bj.length:=J;subst hie;rw[LC];have hpb:=Da hp (show b+1<=wr.heap.size by omega);refine⟨AS hpb λk e=>?_,λk e e2=>?_⟩
   .have hkl:=hp.lt k e;have:=hk5 k J (λe2=>by have:=V0 k e2;omega);exact(hset k J).trans (this.trans (((AV wc).alloc _).block k hkl.2))
   .have hkl:=hp.lt k e;have e3:g5=k:=by cases e2;rfl
    rcases hat with q|q
    .have:=V0 g5 q;omega
    .omega
theorem Xo{a:V4}(Sd:World->Value->Prop)(w:tyW)(hs:EF w sc a)(uf:sc.AH.length<=8)(AC8:sc.draws.length<=64)(hl:l.length<=1000)(hcnt:(countP l).2=0)
  (hOB:∀W W' v,Sd W v->Up W W'->Sd W' v) (hOq:∀W v,Sd W v->∃q n c,v=BG q 0 n c/\q<W.heap.size)
  (ui:∀W,Up w W->Calls Tryz.prog 48 #[.agg (gQ a sc)] W λe w'=>e=BA true/\Up W w')
  (oO:∀W,Up w W->Calls Tryz.prog 49 #[AR a.TA sc.things.length a.tc,sc.AH.length] W λe w'=> ∃ov,e=BA (.tuple #[ov,()])/\Sd w' ov/\Up W w')
  (hstr:∀W ov,Sd W ov->Calls Tryz.prog 51 #[ov] W λe w'=> ∃sv,e=BA sv/\BK w' W.heap.size sv l/\Up W w'):
  Calls Tryz.prog 24 #[.agg (gQ a sc)] w (km Sd w sc l):=by
 have HB0:Hid (G2 w (w.alloc (Y (FW sc a) 27)) (FW sc a)):=I ⟨AV _⟩;have QJ:=I (λ(wr:tyW) (h:G2 w wr (FW sc a))=>show V wr w 0 (AR a.TA sc.things.length a.tc)/\V wr w 1 (AR a.PA sc.AH.length a.pc)/\V wr w 2 (AR a.KA sc.picks.length a.kc)/\V wr w 3 (AR a.DA sc.draws.length a.dc)from⟨h.cell 0,h.cell 1,h.cell 2,h.cell 3⟩);have HS:=I hs;have HF:=I ui;have HLY:=I oO;have HST:=I hstr;have uM:=I hOB;have HOQ:=I hOq;have HN:=I (And.intro uf (And.intro AC8 (And.intro hl hcnt)));obtain⟨c0,c1,c2,c3⟩:=QJ.out _ HB0.out;unfold FW at c0 c1 c2 c3;have bE:=I HB0.out.w;unfold FW at bE;clear hs ui oO hstr hOB hOq uf AC8 hl hcnt;go_enter Tryz.func24,Tryz.ntmps24;go_wp2_with fail;refine(HF.out _ bE.out).mono ?_;rintro e w1 ⟨rfl,hu1⟩;have HB1:=I (HB0.out.go hu1);clear hu1 c0 c1 c2 c3 bE HF;obtain⟨c0,c1,c2,c3⟩:=QJ.out _ HB1.out;go_wp2_with fail;refine(HLY.out _ HB1.out.w).mono ?_;rintro e w2 ⟨ov,rfl,UR,hu2⟩;have HB2:=I (HB1.out.go hu2);obtain⟨oq,on,oc,rfl,hoq⟩:=HOQ.out _ _ UR;have Jd:=I UR;have HQ2:=I hoq;clear hu2 c0 c1 c2 c3 UR hoq HLY HB1 HOQ;go_wp2_with fail;refine(HST.out _ _ Jd.out).mono ?_;rintro e w3 ⟨sv,rfl,hsv,hu3⟩;obtain⟨As,cs,rfl,hat⟩:=hsv.at';have xL:=I (mH l As cs w3 (by have:=HN.out.2.2.1;omega) hat);have Hg:=I hu3;clear hu3 hsv hat HST;go_wp2_with fail;refine xL.out.mono ?_;intro e w4 h4;unfold vB at h4;rw[AI (by rw[HN.out.2.2.2];simp)]at h4;obtain⟨h,X,rfl,hbk,ML⟩:=h4;have r9:=I hbk;have Pz:=I ML;have IM:=I (HB2.out.go (Hg.out.trans ML));clear hbk ML xL;obtain⟨c0,c1,c2,c3⟩:=QJ.out _ IM.out;have Px:=I (Li sc.draws a.DA a.dc w4 (HS.out.up IM.out.w).dn.1 (HS.out.up IM.out.w).dr (by have:=HN.out.2.1;omega));go_wp2_with fail;refine Px.out.mono ?_;rintro e w5 ⟨dv,rfl,hdv,OK⟩;have FA:=I (IM.out.go OK);obtain⟨Ad,cd,rfl,hcd,_⟩:=Af hdv;have zH:=I hdv;have Kr:=I OK;clear OK hdv hcd c0 c1 c2 c3 Px;have hbw:=Ah w5 (Y #[BG oq 0 on oc,pT h,sN,AR Ad sc.draws.length cd,(),()] 108);have Kb:=(AV w5).alloc (Y #[BG oq 0 on oc,pT h,sN,AR Ad sc.draws.length cd,(),()] 108);obtain⟨W1,hW1⟩:=gX (w5.alloc (Y #[BG oq 0 on oc,pT h,sN,AR Ad sc.draws.length cd,(),()] 108));obtain⟨b,hb⟩:=gX w5.heap.size;have hsz:W1.heap.size=b+1:=by rw[<-hW1,<-hb];exact Cy _ _
 rw[hW1]at hbw Kb;rw[hb]at hbw;have Je:=I (FA.out.go Kb);have ZF:=I hbw;have ME:=I Kb;have jP:=I (And.intro hb hsz);obtain⟨c0,c1,c2,c3⟩:=QJ.out _ Je.out;go_upto_region 10 with fail;obtain⟨pn,hpn⟩:=gX sc.AH.length;have UT:=I hpn;rw[hpn]at c1;have HT0:=I (show lX W1 W1 b h (BG oq 0 on oc) (AR Ad sc.draws.length cd) sc.AH sN []from⟨Hx _ _,ZF.out,C3 _ _ _ _,λi hi=>by simp at hi⟩);clear hbw Kb hb hsz hW1;simp only[hpn];clear hpn;go_wp2_with fail
 go_loopw[44] (λiv wr=> ∃i:Nat,i<=pn/\iv=O i/\Hid (∃tv Bj,Bj.length=i/\lX W1 wr b h (BG oq 0 on oc) (AR Ad sc.draws.length cd) sc.AH tv Bj)) (λiv _=>pn-(intOf iv).toNat)
 case atStart=>exact⟨0,J,rfl,I ⟨_,_,rfl,HT0.out⟩⟩
 case round=>
  obtain⟨i,hi,rfl,HH⟩:=hrel;obtain⟨tv,Bj,hpl,hT⟩:=HH.out;have HT:=I hT;clear HH;by_cases hlt:i<pn
  .have hii:(i:tyI)<pn:=J;have hi0:(0:tyI)<=i:=J;have hib:(i:tyI)<=8:=by have:=HN.out.1;have:=UT.out;omega
   have KI:=I (show Up w wr from DL Je.out.w (KX HT.out.below (by have:=FA.out.w.size;have:=jP.out;omega)));obtain⟨pb,oP,A',c',eP,p0,p1,p2,p3,p4⟩:=(HS.out.up KI.out).pr i (by rw[UT.out];exact hlt);have Px:=I (λ(W:tyW) (u:Up wr W)=>Z5 (sc.AH.getD i []) A' c' W J (p1.up u));have Ea:=I (And.intro hlt hpl);obtain⟨At,ct,rfl,hct,_⟩:=Af hT.row;have V9:=I HT.out;have hcell:V wr b 2 (AR At Bj.length ct):=AL HT.out.blk 2;have HBL:=I (AJ hcell);have da:=I (λ(W:tyW) (u:Up wr W)=>(u.cell HBL.out).trans hcell);have uN:=I (show b+1<=wr.heap.size from HBL.out);obtain⟨m,hm⟩:=gX ((sc.AH.getD i []).length);have HM:=I hm;rw[hm]at p0 p2 Px;rw[eP];clear hT hct p1 p2 p3 p4 hcell hi hpl;go_upto_region 13 with fail;clear p0;have hT0:True:=trivial;refine Br (S:=λW=>True) Ay hT0 (λhS0=>?_);refine tq 0 hS0 ?_;refine tq 1 hS0 ?_;refine tq 2 hS0 ?_;refine tq 3 hS0 ?_;refine tq 5 hS0 ?_;refine Dn (rs:=[4,6]) Ay Az ?_;refine BU rfl (λK hK=>?_) (BU rfl (λK hK=>?_) Dp)
   .have kk:=da.out _ (AV wr).drew;go_simp;clear kk;refine bk hK trivial λhS1=>?_
    refine tr 6 λK hK=>?_
    go_simp;refine(Px.out _ (AV wr).drew).mono ?_;rintro e wc ⟨pv,rfl,hpv,huc⟩;obtain⟨Ap,cp,hpe,_,_⟩:=Af hpv;rw[HM.out]at hpe;subst hpe;have iu:=I hpv;have Mb:=I huc;clear huc hpv;refine bk hK trivial λhS2=>?_
    refine tq 7 hS2 ?_;refine tr 8 λK hK=>?_
    go_simp;refine bk hK trivial λGJ=>?_
    refine tr 9 λK hK=>?_
    refine step_append_lies _ rfl (.tmp 52) (.tmp 56) 106 rfl (b+1) 113 (gi Dv) _ _ _ Tryz.underlying106 (g0 Dv) (g1 Dv) (g2 Dv) (g3 Dv) rfl AQ (AR At Bj.length ct) Bj.length (Bj.flatMap Qa) rfl (AS V9.out.row λk e=>(((AV wr).drew.trans Mb.out).trans ((AV wc).alloc _)).block k (V9.out.row.lt k e).2) ⟨wc.heap.size,0,none⟩ 1 1 (Qa (AR Ap m cp)) rfl rfl (λj u h=>CQ wc _ _ j u h) (by simp[Qa,Value.oneCell']) AQ (by have:=Ea.out.2;unfold maxLen;omega) (by have:=Ea.out.2;omega) (by have:=uN.out;have:=Mb.out.size;simp at this|-;omega) _ rfl ?_;intro g5 cap5 w5 hown5 hg5 IL KJ;have oz:=I (V9.out.push Mb.out (by rw[Ea.out.2];exact iu.out) hown5 hg5 IL);have hb5:hSM w5 wr b:=(hg5.block b (by have:=uN.out;have:=Mb.out.size;simp at this|-;omega) (λe=>by have:=(V9.out.row.lt b e.symm).1;omega)).trans ((((AV wr).drew.trans Mb.out).trans ((AV wc).alloc _)).block b HBL.out);have k2:V w5 b 2 (AR At Bj.length ct):=AL (hb5.trans V9.out.blk) 2;have f2:w5.frozen? (aD b 2)=false:=FD (hb5.trans V9.out.blk) 2;clear hown5 hg5 IL KJ hb5;refine bk hK trivial λZE=>?_
    refine tq 10 ZE ?_;refine tq 11 ZE ?_;refine tr 12 λK hK=>?_
    go_simp;refine bk hK trivial λhS9=>?_
    refine CN Ay ?_ _
    try simp only[Act.put,DH,DI,DG,Ei,Ef,Ee]
    go_wp2
    go_roundw
    case rel=>exact⟨i+1,Ea.out.1,by first|rfl|go_num,I ⟨_,_,by rw[Gx,Ea.out.2];rfl,oz.out⟩⟩
    case measure=>have:=Ea.out.1;simp[intOf];omega
   .go_simp;refine(Px.out _ (AV wr).drew).mono ?_;rintro e wc ⟨pv,rfl,hpv,huc⟩;obtain⟨Ap,cp,hpe,_,_⟩:=Af hpv;rw[HM.out]at hpe;subst hpe;have iu:=I hpv;have Mb:=I huc;clear huc hpv;refine bk hK trivial λhS1=>?_
    refine tq 7 hS1 ?_;refine Dn (rs:=[4,8]) Ay Az ?_;refine BU rfl (λK hK=>?_) (BU rfl (λK hK=>?_) Dp)
    .have kk:=da.out _ ((AV wr).drew.trans Mb.out);go_simp;clear kk;refine bk hK trivial λhS2=>?_
     refine tr 8 λK hK=>?_
     go_simp;refine bk hK trivial λGJ=>?_
     refine tr 9 λK hK=>?_
     refine step_append_lies _ rfl (.tmp 52) (.tmp 56) 106 rfl (b+1) 113 (gi Dv) _ _ _ Tryz.underlying106 (g0 Dv) (g1 Dv) (g2 Dv) (g3 Dv) rfl AQ (AR At Bj.length ct) Bj.length (Bj.flatMap Qa) rfl (AS V9.out.row λk e=>(((AV wr).drew.trans Mb.out).trans ((AV wc).alloc _)).block k (V9.out.row.lt k e).2) ⟨wc.heap.size,0,none⟩ 1 1 (Qa (AR Ap m cp)) rfl rfl (λj u h=>CQ wc _ _ j u h) (by simp[Qa,Value.oneCell']) AQ (by have:=Ea.out.2;unfold maxLen;omega) (by have:=Ea.out.2;omega) (by have:=uN.out;have:=Mb.out.size;simp at this|-;omega) _ rfl ?_;intro g5 cap5 w5 hown5 hg5 IL KJ;have oz:=I (V9.out.push Mb.out (by rw[Ea.out.2];exact iu.out) hown5 hg5 IL);have hb5:hSM w5 wr b:=(hg5.block b (by have:=uN.out;have:=Mb.out.size;simp at this|-;omega) (λe=>by have:=(V9.out.row.lt b e.symm).1;omega)).trans ((((AV wr).drew.trans Mb.out).trans ((AV wc).alloc _)).block b HBL.out);have k2:V w5 b 2 (AR At Bj.length ct):=AL (hb5.trans V9.out.blk) 2;have f2:w5.frozen? (aD b 2)=false:=FD (hb5.trans V9.out.blk) 2;clear hown5 hg5 IL KJ hb5;refine bk hK trivial λZE=>?_
     refine tq 10 ZE ?_;refine tq 11 ZE ?_;refine tr 12 λK hK=>?_
     go_simp;refine bk hK trivial λhS9=>?_
     refine CN Ay ?_ _
     try simp only[Act.put,DH,DI,DG,Ei,Ef,Ee]
     go_wp2
     go_roundw
     case rel=>exact⟨i+1,Ea.out.1,by first|rfl|go_num,I ⟨_,_,by rw[Gx,Ea.out.2];rfl,oz.out⟩⟩
     case measure=>have:=Ea.out.1;simp[intOf];omega
    .go_simp;refine bk hK trivial λhS2=>?_
     refine tr 4 λK hK=>?_
     have kk:=da.out _ (((AV wr).drew.trans Mb.out).trans ((AV wc).alloc (Y #[AR Ap m cp,(),sN,sN,(),(),(),(),(),(),false] 113)));go_simp;clear kk;refine bk hK trivial λGJ=>?_
     refine tr 9 λK hK=>?_
     refine step_append_lies _ rfl (.tmp 52) (.tmp 56) 106 rfl (b+1) 113 (gi Dv) _ _ _ Tryz.underlying106 (g0 Dv) (g1 Dv) (g2 Dv) (g3 Dv) rfl AQ (AR At Bj.length ct) Bj.length (Bj.flatMap Qa) rfl (AS V9.out.row λk e=>(((AV wr).drew.trans Mb.out).trans ((AV wc).alloc _)).block k (V9.out.row.lt k e).2) ⟨wc.heap.size,0,none⟩ 1 1 (Qa (AR Ap m cp)) rfl rfl (λj u h=>CQ wc _ _ j u h) (by simp[Qa,Value.oneCell']) AQ (by have:=Ea.out.2;unfold maxLen;omega) (by have:=Ea.out.2;omega) (by have:=uN.out;have:=Mb.out.size;simp at this|-;omega) _ rfl ?_;intro g5 cap5 w5 hown5 hg5 IL KJ;have oz:=I (V9.out.push Mb.out (by rw[Ea.out.2];exact iu.out) hown5 hg5 IL);have hb5:hSM w5 wr b:=(hg5.block b (by have:=uN.out;have:=Mb.out.size;simp at this|-;omega) (λe=>by have:=(V9.out.row.lt b e.symm).1;omega)).trans ((((AV wr).drew.trans Mb.out).trans ((AV wc).alloc _)).block b HBL.out);have k2:V w5 b 2 (AR At Bj.length ct):=AL (hb5.trans V9.out.blk) 2;have f2:w5.frozen? (aD b 2)=false:=FD (hb5.trans V9.out.blk) 2;clear hown5 hg5 IL KJ hb5;refine bk hK trivial λZE=>?_
     refine tq 10 ZE ?_;refine tq 11 ZE ?_;refine tr 12 λK hK=>?_
     go_simp;refine bk hK trivial λhS9=>?_
     refine CN Ay ?_ _
     try simp only[Act.put,DH,DI,DG,Ei,Ef,Ee]
     go_wp2
     go_roundw
     case rel=>exact⟨i+1,Ea.out.1,by first|rfl|go_num,I ⟨_,_,by rw[Gx,Ea.out.2];rfl,oz.out⟩⟩
     case measure=>have:=Ea.out.1;simp[intOf];omega
  .have hie:i=pn:=J;subst hie;have hnl:¬((i:tyI)<i):=J;have hb:=jP.out.1;have h45:=Kr.out.size;have h34:=Pz.out.size;have h23:=Hg.out.size;have h12:=HB2.out.w.size;have bE:=I (λ(k:tyN) (hk:k<b)=>show hSM wr w5 k from(HT.out.below.block k hk).trans (ME.out.block k J));have KI:=I (λ(W:tyW) (u:Up W w5)=>show Up W wr from DL (u.trans ME.out) (KX HT.out.below (by have:=u.size;omega)))
   have HFI:Hid (vG Sd w wr sc l b h w3.heap.size X (BG oq 0 on oc) (AR Ad sc.draws.length cd) tv Bj):=I
    {up:=KI.out w FA.out.w
     Bw:=J
     Bb:=J
     Dc:=r9.out.keep ((Kr.out.trans (KI.out w5 (AV _))).size) λk hx=>(bE.out k (by have:=(r9.out.lt k hx).2;omega)).trans (Kr.out.block k (r9.out.lt k hx).2)
     VO:=λk hx=>by have:=(r9.out.lt k hx).2;omega
     ob:=uM.out _ _ _ Jd.out (KI.out w2 ((Hg.out.trans Pz.out).trans Kr.out))
     oq:=λq n c e=>by cases e;have:=HQ2.out;omega
     pM:=AS (Da zH.out J) λk e=>bE.out k (by have:=(zH.out.lt k e).2;omega)
     dq:=λk e=>⟨λhx=>by have h1:=(r9.out.lt k hx).2;have h2:=(zH.out.lt k e).1;omega,by have:=(zH.out.lt k e).2;omega⟩
     len:=by rw[hpl,UT.out]
     blk:=HT.out.blk
     row:=HT.out.row
     pr:=HT.out.pr}
   clear HT hT hb h45 h34 h23 h12 bE KI
   go_wp2
   go_ret2;exact⟨b,h,_,X,_,_,tv,Bj,rfl,HFI.out⟩
def yp (B:tyN)(w':tyW)(b g h n c1:tyN)(l:List SD)(ov dv:tyV)(Bj:List Value)(M:MD):WK:=⟨B,w',b,g,h,n,c1,l,ov,dv,λt=>Bj.getD t JN,M⟩
theorem cJ(v:tyV):(Qa v).length=11:=rfl
theorem aF{e:TypeId}{s:tyN}{xs:List Value}{c:tyN}(h:w.ownsRow B e s (BG b 0 m c) n xs):∀j,w.frozen? (aD b j)=false:=λj=>by
 rcases h.2 with⟨hv,-⟩|⟨g,cap,cur,hv,hg,hh,-⟩
 .cases hv
 .cases hv
  exact D4 _ _ j _ _ hh
theorem ZS{l:tyL}{A:tyA}{c:tyN}(h:w.ownsRow B 3 1 (AR A n c) l.length (Aj l)):Row w A l.length (Bl l):=by
 intro i hi;rcases h.2 with⟨hv,e0⟩|⟨g,cap,cur,hv,hg,hh,hcap,hmax,hsz2,hcells⟩
 .omega
 .cases hv
  refine⟨g,0,rfl,?_⟩;rw[Dw,Ar w g i _ _ _ hh];have h2:=Er (l:=l) hi;have h3:(cur.toList.take (l.length*1))[i]?=some (Bl l i):=by rw[hcells];exact h2
  rw[Us,AK J]at h3;simpa using h3
theorem jp{Sd:World->Value->Prop}{w':tyW}{h:tyN}{X:Nat->Prop}{ov dv tv:tyV}{Bj:List Value}(H:vG Sd w w' sc l b h B X ov dv tv Bj)
  (hn1:1<=sc.AH.length) (uf:sc.AH.length<=8) (hpl:∀i,i<sc.AH.length->(sc.AH.getD i []).length<=1000000)
  (hd:sc.draws.length<=64) (hfit:Fit l) (M:MD) (hM:M.many=Cl l l.length) (hF:M.fresh=Gs l) (hD:M.draws=sc.draws) (hov:∃q n c,ov=BG q 0 n c):
  ∃g c1 ow,tv=BG g 0 sc.AH.length c1/\b+1<=g/\
   Wd (yp B w' b g h sc.AH.length c1 l ov dv Bj M) w' (Cv sc.AH) 0 (λ_=>JN) (λ_=>JN) ow/\
   N7 (yp B w' b g h sc.AH.length c1 l ov dv Bj M) sc.AH (λk=>k<w'.heap.size/\ow k=0)/\(∀k,k<B->ow k=0):=by
 obtain⟨g,c1,V0,hgb,-⟩:=D1 (i:=0) JN H.row cJ (by rw[H.len];omega)
 have hcg:∀t,t<sc.AH.length->∀j,j<11->w'.cell? (aD g (t*11+j))=(Qa (Bj.getD t JN))[j]?:=λt ht j hj=>by
  obtain⟨g2,c2,e2,_,h3⟩:=D1 (i:=t) JN H.row cJ (by rw[H.len];exact ht);rw[V0]at e2;cases e2;have:=h3 j hj;rwa[Dw]at this
 rw[H.len]at V0;subst V0;have hgl:=(H.row.lt g rfl).2;have hfg:=aF H.row;have hbl:=(gE H.blk).1
 classical
 obtain⟨ow,how⟩:∃ow:Nat->Nat,ow=λk=>if k=b then 1 else if k=g then 2 else if X k then 3 else 0:=⟨_,rfl⟩
 have hX:=H.Dc.lt;have o1:ow b=1:=by rw[how];simp
 have o2:ow g=2:=by rw[how];show(if g=b then 1 else if g=g then 2 else _)=2;rw[AI J,AK rfl]
 have o3:∀k,ow k=3↔X k:=λk=>by
  rw[how];simp only;by_cases e1:k=b
  .rw[AK e1];refine⟨λh=>(by cases h),λh=>(by have:=H.VO k h;omega)⟩
  rw[AI e1];by_cases e2:k=g
  .rw[AK e2];refine⟨λh=>(by cases h),λh=>(by have:=H.VO k h;omega)⟩
  rw[AI e2];by_cases e3:X k
  .rw[AK e3];exact⟨λ_=>e3,λ_=>rfl⟩
  .rw[AI e3];exact⟨λh=>(by cases h),λh=>absurd h e3⟩
 have o0:∀k,ow k≠0->k=b\/k=g\/X k:=λk hk=>by
  rw[how]at hk;simp only at hk;by_cases e1:k=b
  .exact .inl e1
  rw[AI e1]at hk;by_cases e2:k=g
  .exact .inr (.inl e2)
  rw[AI e2]at hk;by_cases e3:X k
  .exact .inr (.inr e3)
  .rw[AI e3]at hk;exact absurd rfl hk
 have oB:∀k,ow k≠0->B<=k/\k<w'.heap.size:=λk hk=>by
  rcases o0 k hk with rfl|rfl|h
  .exact⟨H.Bb,hbl⟩
  .exact⟨by have:=H.Bb;omega,hgl⟩
  .exact hX k h
 have o0':∀k,k<b+1->k≠b->¬X k->ow k=0:=λk h1 h2 h3=>by
  rw[how];simp only;rw[AI h2,AI J,AI h3]
 have hXe:X=λk=>ow k=3:=by funext k;exact propext (o3 k).symm
 refine⟨g,c1,ow,rfl,hgb,?_,?_,λk hk=>?_⟩
 .refine{n:=rfl,up:=Hx _ _,Bw:=(by show B<=w'.heap.size;have:=H.Bb;omega),ro:=λk _ _=>rfl,own:=oB,ob:=o1,og:=o2,cb:=λj hj=>?_,fb:=λj=>FD H.blk j,cg:=λt ht=>⟨λj hj=>?_⟩,fg:=hfg,ra:=λt ht=>C3 _ _ _ _,rl:=λt ht=>C3 _ _ _ _,oa:=λt k _ e=>by simp[JN,Value.ownBlock]at e,ol:=λt k _ e=>by simp[JN,Value.ownBlock]at e,bk:=?_}
  .show w'.cell? (aD b j)=_;rw[AL H.blk j]
   match j,hj with
   |0,_|1,_|2,_|3,_|4,_|5,_=>rfl
  .show w'.cell? (aD g (t*11+j))=_;rw[hcg t ht j hj]
   match j,hj with
   |0,_|1,_|2,_|3,_|4,_|5,_|6,_|7,_|8,_|9,_|10,_=>rfl
  .show ED w' B h l bs0 0 (λk=>ow k=3);rw[<-hXe];exact H.Dc
 .refine{z:=⟨uf,?_,hfit,hM,hF⟩,n:=rfl,st:=λk hk=>hk.1,ov:=?_,pr:=λt ht=>?_,dr:=?_,ds:=λA l2 c b2 off e1 e2 hl2=>?_}
  .obtain⟨A,c,e,h1,h2⟩:=Af H.row;rw[H.len]at e h1;cases e
   exact⟨h1,h2⟩
  .obtain⟨q,n,c,rfl⟩:=hov;exact⟨_,_,_,rfl⟩
  .have ht:t<sc.AH.length:=ht;obtain⟨h1,h2⟩:=H.pr t (by rw[H.len];exact ht);rcases Pf (sc.AH.getD t []).length with h0|h0
   .obtain⟨A,c,e,h3,h4⟩:=Af h1;exact⟨A,c,e,h3,hpl t ht,J,λi hi=>absurd hi (by rw[h0];omega),λb off _ h5=>absurd h5 (by rw[h0];omega)⟩
   obtain⟨pb,pc,e,hq,hlt,hle,hat⟩:=h1.at' h0;obtain⟨A2,c2,e2,hc2,hm2⟩:=Af h1;rw[e]at e2;cases e2;refine⟨_,pc,e,hle,hpl t ht,by have:=hm2;omega,hat,λb3 off e3 _=>?_⟩;cases e3
   refine⟨hlt,?_⟩;rcases Classical.em (ow pb=0)with h|h
   .exact h
   .rcases o0 pb h with h4|h4|h4
    .omega
    .exact absurd (show Value.ownBlock (BG g 0 sc.AH.length c1)=some pb by rw[h4];rfl) (h2 pb (by rw[e];rfl))
    .have:=H.VO pb h4;omega
  .refine⟨by show M.draws.length<=64;rw[hD];exact hd,?_⟩;obtain⟨A,c,e,h1,h2⟩:=Af H.pM;subst e;refine⟨A,c,by show Value.slice A sc.draws.length c=AR A M.draws.length c;rw[hD],?_,LR H.pM,by show M.draws.length<=c;rw[hD];exact h1,by have:=h2;omega⟩;show Row w' A M.draws.length (Bl M.draws);rw[hD];exact ZS H.pM
  .have e1:dv=AR A l2 c:=e1;subst e1;subst e2;obtain⟨h3,h4⟩:=H.dq b2 rfl;exact⟨by show b2<w'.heap.size;omega,o0' b2 J J h3⟩
 .rcases Classical.em (ow k=0)with h|h
  .exact h
  .have:=(oB k h).1;omega
theorem LV{P:Program}{ops:Array Oper}{o:Oper}{a:Act}{K:Act->World->Prop}{Q:Exit->Act->World->Prop}{E:Prop}{w:tyW}(hgd:o.guard=none)(s x:Operand)(t:TypeId)
  (ho:o.op= .call {callee:= .builtin .append,args:= #[s,x],argTypes:= #[t,t]})
  (B:tyN) (e:TypeId) (i:TypeInfo) (z:tyV) (size bytes:tyN) (ht:P.underlying t=some (.slice e)) (hi:P.info? e=some i) (hz:i.zero=some z)
  (hsize:i.size=size) (hby:i.bytes=bytes) (hzs:z.cells.size=size) (hsz:0<size)
  (v:tyV) (n:tyN) (xs:List Value) (hs:a.eval s=v) (hown:w.ownsRow B e size v n xs)
  (B2:tyN) (v2:tyV) (m:tyN) (ys:List Value) (hx:a.eval x=v2) (hown2:w.ownsRow B2 e size v2 m ys) (h1:∀u∈ys,u.oneCell'=true)
  (hb1:0<bytes) (hbytes:(n+m)*bytes<=140737488355328) (hB:B<=w.heap.size)
  (h:∀v' w',w'.ownsRow B e size v' (n+m) (xs++ys)->w.grownBy w' v.ownBlock->Below B w w'->(v'.ownBlock=v.ownBlock\/v'.ownBlock=some w.heap.size)->K (a.put o.dst v') w'):
  if Region.wanted o (yielded ops a.tmps)=true then Oper.wp P o a w K Q else E:=by
 have hw:Region.wanted o (yielded ops a.tmps)=true:=by simp[Region.wanted,hgd]
 rw[AK hw]
 have h63:n+m<=maxLen:=by
  have:n+m<=(n+m)*bytes:=TE _ hb1;unfold maxLen;omega
 rcases hown2.2 with⟨rfl,rfl⟩|⟨g,cap,cur,rfl,hg,hh,hcap,hmax,hsz2,hcells⟩
 .have hys:ys=[]:=bX (by have:=hown2.1;omega);subst hys;have hrun:=run_append_owned_none (P:=P) (w:=w) B t o.type e i size ht hi v n xs hown;unfold Oper.wp;simp[execOp,ho,resolve,invoke,builtin,hs,hx,hrun,Result.andThen];exact h v w (Cw hown) (World.grownBy.refl w _) (Hx _ _) (.inl rfl)
 .obtain⟨v',w',hr,h2,h3,h4,h5⟩:=run_append_own_at (P:=P) w B t o.type e i z size bytes ht hi hz hsize hby hzs hsz v n xs hown ⟨g,0,none⟩ m cap ys hown2.1 (by
   intro j u hu;rw[JC,Dw,Ar w g j _ _ _ hh];rw[<-hcells,Us]at hu;split at hu
   .simpa using hu
   .cases hu) h1 h63 hbytes hB
  unfold Oper.wp execOp;simp only[ho,resolve,invoke,builtin,Sem.run_bind,Sem.run_pure,Result.andThen_ok,List.map_toArray,Gf,jx,hs,hx,hr];exact h v' w' h2 h3 (grownBy_below h3 hB (DS hown)) h5
theorem fZ{M:MD}{AH:List (List CD)}{k:tyN}{S:WD}(hF:LS M AH)(F:Fits M AH k S)(t:tyN)(hk:k+2<=4999)(hx:t<S.n->(S.AU t).st=2->Ky (S.Dc.Bm M.fresh t (EP M t S.tick)).1):(KR M t S).length<=2001:=by
 have hp:∀k' S',Fits M AH k' S'->k'<=4999->∀t,t<S'.n->(S'.AU t).next<(S'.AU t).prog.length->(JF M t S').length<=2000:=λk' S' F' hk' t ht hn=>by
  obtain⟨a1,-⟩:=Lv hF F' ht hn hk';unfold JF;rw[Gx,Ca,jo];rcases hr:Co M t (S'.AU t)with⟨_|_,s'⟩
  .rw[hr]at a1;simp at a1|-;omega
  .rw[hr]at a1;simp only[IN]at a1|-;omega
 unfold KR;split
 .simp
 rename_i h1;have ht:t<S.n:=J;split
 .simp
 split
 .split
  .simp
  .rename_i h4;have:=hp _ _ F.tick J t ht (by show(S.AU t).next<(S.AU t).prog.length;omega);rw[Qy];omega
 rename_i h3;have hn:=(F.st t ht).resolve_left h3;split
 .simp
 .rename_i h4;have hst:(S.AU t).st=2:=hn.1.resolve_left h4;have FE:Fits M AH (k+2) (GS M t S.tick):=F.tick.ends ht hn.2 hst (hx ht hst);have e:(GS M t S.tick).AU t={S.AU t with ans:=(S.AU t).ans++[(S.tick.Dc.Bm M.fresh t (EP M t S.tick)).1],GD:=(S.AU t).GD+1}:=BE S.tick t _;have:=hp _ _ FE J t ht (by rw[e];exact hn.2);omega
theorem fe(t:tyN)(S:WD):(JV t S).length<=2001:=by
 unfold JV;split<;>simp
structure Ci (Z:WK)(AH:List (List CD))(stat:Nat->Prop)(rb:tyN)(X:Nat->Prop)(wX:tyW)(m:tyN)(wr:tyW)(S:WD)(evs:List D6)(lv:tyV):Prop where
 wd:∃N va vl ow,Wd Z wr S N va vl ow/\N<=9*m/\(∀j,stat j->ow j=0)/\ow rb=0/\(∀j,lv.ownBlock=some j->ow j=0)/\∀k,X k->ow k=0
 fit:Fits Z.M AH m S
 gi:∃H,GInv Z.M AH S H
 WJ:Z.w1.heap.size<=rb
 blk:BR wr rb #[lv,(),sN,sN,sN] 32
 row:CU wr (rb+1) lv evs
 len:evs.length<=2002*m
 VO:∀k,X k->rb<k/\k<wr.heap.size/\lv.ownBlock≠some k
 kp:∀k,X k->hSM wr wX k
structure ZQ (Z:WK)(AH:List (List CD))(stat:Nat->Prop)(rb:tyN)(X:Nat->Prop)(wX:tyW)(m:tyN)(w6:tyW)(S':WD)(evs E:List D6)(lv v:tyV)(q:tyN):Prop where
 wd:∃N va vl ow,Wd Z w6 S' N va vl ow/\N<=9*(m+1)/\(∀j,stat j->ow j=0)/\ow rb=0/\(∀j,lv.ownBlock=some j->ow j=0)/\∀k,X k->ow k=0
 fit:Fits Z.M AH (m+1) S'
 gi:∃H,GInv Z.M AH S' H
 WJ:Z.w1.heap.size<=rb
 blk:BR w6 rb #[lv,(),sN,sN,sN] 32
 row:CU w6 (rb+1) lv evs
 new:CU w6 q v E
 len:evs.length<=2002*m
 vg:E.length<=2001
 VO:∀k,X k->rb<k/\k<w6.heap.size/\lv.ownBlock≠some k
 kp:∀k,X k->hSM w6 wX k
section
variable {Z:WK}{AH:List (List CD)}{stat:Nat->Prop}{rb m:tyN}{X:Nat->Prop}{wX wr:tyW}{S:WD}{evs:List D6}{lv:tyV}
theorem Ci.lt(H:Ci Z AH stat rb X wX m wr S evs lv):rb<wr.heap.size:=(gE H.blk).1
theorem Ci.grow(H:Ci Z AH stat rb X wX m wr S evs lv)(u:Up wr W):Ci Z AH stat rb X wX m W S evs lv:=by
 obtain⟨N,va,vl,ow,h1,h2⟩:=H.wd;exact⟨⟨N,va,vl,ow,h1.grow u,h2⟩,H.fit,H.gi,H.WJ,(u.block _ H.lt).trans H.blk,H.row.up u,H.len,λk hk=>⟨(H.VO k hk).1,B5 (H.VO k hk).2.1 u.size,(H.VO k hk).2.2⟩,λk hk=>(u.block k (H.VO k hk).2.1).trans (H.kp k hk)⟩
theorem Ci.more{m':tyN}(H:Ci Z AH stat rb X wX m wr S evs lv)(h:m<=m'):Ci Z AH stat rb X wX m' wr S evs lv:=by
 obtain⟨N,va,vl,ow,h1,h2,h3⟩:=H.wd;exact⟨⟨N,va,vl,ow,h1,J,h3⟩,H.fit.more h,H.gi,H.WJ,H.blk,H.row,by have:=H.len;omega,H.VO,H.kp⟩
theorem Ci.box(H:Ci Z AH stat rb X wX m wr S evs lv)(u:Up wr W):Ci Z AH stat rb (λk=>wr.heap.size<=k/\k<W.heap.size) W m W S evs lv:=by
 obtain⟨N,va,vl,ow,h1,h2,h3,h4,h5,h6⟩:=H.wd;exact⟨⟨N,va,vl,ow,h1.grow u,h2,h3,h4,h5,λk hk=>h1.free hk.1⟩,H.fit,H.gi,H.WJ,(u.block _ H.lt).trans H.blk,H.row.up u,H.len,λk hk=>⟨by have:=H.lt;omega,hk.2,λe=>by have:=(CX H.row k e).2;omega⟩,λk hk=>rfl⟩
theorem Ci.drop(H:Ci Z AH stat rb X wX m wr S evs lv)(wY:tyW):Ci Z AH stat rb (λ_=>False) wY m wr S evs lv:=by
 obtain⟨N,va,vl,ow,h1,h2,h3,h4,h5,h6⟩:=H.wd;exact⟨⟨N,va,vl,ow,h1,h2,h3,h4,h5,λk hk=>hk.elim⟩,H.fit,H.gi,H.WJ,H.blk,H.row,H.len,λk hk=>hk.elim,λk hk=>hk.elim⟩
theorem Ci.small(H:Ci Z AH stat rb X wX m wr S evs lv)(ub:EE Z.M)(ht:t<S.n)(hst:(S.AU t).st=2):Ky (S.Dc.Bm Z.M.fresh t (EP Z.M t S.tick)).1:=by
 obtain⟨Hh,hH⟩:=H.gi;exact hH.small ub ht hst _
theorem Ci.mid(H:Ci Z AH stat rb X wX m wr S evs lv)(L:N7 Z AH stat){N:tyN}{va vl:Nat->Value}{ow:Nat->Nat}(hW:Wd Z wr S N va vl ow)(hN:N<=9*m)(hs:∀j,stat j->ow j=0)(h0:ow rb=0)(hl:∀j,lv.ownBlock=some j->ow j=0)(hX:∀k,X k->ow k=0)
  {E:List D6} {S':WD} (hF:Fits Z.M AH (m+1) S') (hG:∃H,GInv Z.M AH S' H) (hE:E.length<=2001) {e:Ending} {w6:tyW} (hp:Ex Z N wr ow E S' e w6):
  ∃v,e=BA v/\ZQ Z AH stat rb X wX m w6 S' evs E lv v wr.heap.size:=by
 obtain⟨v,nT,nU,SI,N',rfl,hE',hN',hW',hO,hK,hV⟩:=hp;have hlt:=H.lt;have hblk:=(hK rb hlt h0).trans H.blk;refine⟨v,rfl,⟨N',nT,nU,SI,hW',J,λj hj=>?_,(hO rb hlt).trans h0,λj hj=>?_,λk hk=>(hO k (H.VO k hk).2.1).trans (hX k hk)⟩,hF,hG,H.WJ,hblk,AS H.row λk hk=>hK k (CX H.row k hk).2 (hl k hk),hE',H.len,hE,λk hk=>?_,λk hk=>(hK k (H.VO k hk).2.1 (hX k hk)).trans (H.kp k hk)⟩
 .exact(hO j (B5 (L.st j hj) hW.up.size)).trans (hs j hj)
 .exact(hO j (CX H.row j hj).2).trans (hl j hj)
 .have h1:=(H.VO k hk).2.1;have h2:=hK k h1 (hX k hk);rw[cj h1]at h2;exact⟨(H.VO k hk).1,(gE h2).1,(H.VO k hk).2.2⟩
theorem Ci.pick(H:Ci Z AH stat rb X wX m wr S evs lv)(L:N7 Z AH stat)(hD:aY Z AH stat)(hFw:LS Z.M AH)(ub:EE Z.M)(hm:m<=4500)(ht:t<Z.n):
  Calls Tryz.prog 26 #[pT Z.b,t] wr λe w6=> ∃v,e=BA v/\ZQ Z AH stat rb X wX m w6 (EQ Z.M t S) evs (KR Z.M t S) lv v wr.heap.size:=by
 obtain⟨N,va,vl,ow,hW,hN,hs,h0,hl,hX⟩:=H.wd;have hx:t<S.n->(S.AU t).st=2->Ky (S.Dc.Bm Z.M.fresh t (EP Z.M t S.tick)).1:=λh1 h2=>H.small ub h1 h2
 refine(fy L hD hFw hW hs H.fit J J ht hx).mono λe w6 hp=>?_
 obtain⟨Hh,hH⟩:=H.gi;exact H.mid L hW hN hs h0 hl hX (H.fit.pick hFw t J hx) ⟨_,hH.pick t⟩ (fZ hFw H.fit t J hx) hp
theorem Ci.halt(H:Ci Z AH stat rb X wX m wr S evs lv)(L:N7 Z AH stat)(ht:t<Z.n):
  Calls Tryz.prog 25 #[pT Z.b,t] wr λe w6=> ∃v,e=BA v/\ZQ Z AH stat rb X wX m w6 (ID t S) evs (JV t S) lv v wr.heap.size:=by
 obtain⟨N,va,vl,ow,hW,hN,hs,h0,hl,hX⟩:=H.wd;refine(fh L hW ht).mono λe w6 hp=>?_
 obtain⟨Hh,hH⟩:=H.gi;exact H.mid L hW hN hs h0 hl hX ((H.fit.halt t).more (N9 m)) ⟨_,hH.tV t⟩ (fe t S) hp
end
section
variable {Z:WK}{AH:List (List CD)}{stat:Nat->Prop}{rb m:tyN}{X:Nat->Prop}{wX w6:tyW}{S':WD}{evs E:List D6}{lv v:tyV}{q:tyN}
theorem ZQ.lt(H:ZQ Z AH stat rb X wX m w6 S' evs E lv v q):rb<w6.heap.size:=(gE H.blk).1
theorem ZQ.push(H:ZQ Z AH stat rb X wX m w6 S' evs E lv v q)(L:N7 Z AH stat){w5:tyW}{uj:tyV}(hown:w5.ownsRow (rb+1) 60 7 uj (evs.length+E.length) (evs.flatMap SZ++E.flatMap SZ))(G:w6.grownBy w5 lv.ownBlock)(hB:Below (rb+1) w6 w5)(hat:uj.ownBlock=lv.ownBlock\/uj.ownBlock=some w6.heap.size):
  Ci Z AH stat rb X wX (m+1) (w5.setCell (aD rb 0) uj) S' (evs++E) uj:=by
 obtain⟨N,va,vl,ow,hW,hN,hs,h0,hl,hX⟩:=H.wd;have hlt:=H.lt;have hZB:Z.B<=rb:=DB hW.Bw H.WJ;have hset:∀k,k≠rb->hSM (w5.setCell (aD rb 0) uj) w5 k:=λk hk=>BF w5 ⟨rb,0,none⟩ _ k hk
 have yN:Wd Z w5 S' N va vl ow:=hW.je (λk e=>⟨hl k e,by have:=(CX H.row k e).1;have:=H.WJ;omega⟩) G (KX hB J);refine⟨⟨N,va,vl,ow,?_,hN,hs,h0,λj hj=>?_,hX⟩,H.fit,H.gi,H.WJ,?_,?_,?_,λk hk=>?_,λk hk=>?_⟩
 .refine yN.keep ((Hx Z.B w5).setCell (p:=aD rb 0) hZB _) (λk hk h=>hset k (λe=>h (by rw[e];exact h0))) (λk hk h=>hset k (by have:=H.WJ;omega))
 .rcases hat with e|e
  .rw[e]at hj;exact hl j hj
  .rw[e]at hj;cases hj;exact hW.free (A9 _)
 .have hb5:hSM w5 w6 rb:=G.block rb hlt (λe=>by have:=(CX H.row rb e.symm).1;omega);exact AT (hb5.trans H.blk) 0 _
 .unfold CU;rw[Gx,Y8];exact AS hown λk e=>hset k (λe2=>by have:=(hown.lt k e).1;omega)
 .have:=H.len;have:=H.vg;rw[Gx];omega
 .obtain⟨h1,h2,h3⟩:=H.VO k hk;refine⟨h1,by have:=hB.size;simp;omega,λe=>?_⟩;rcases hat with e2|e2
  .exact h3 (e2.symm.trans e)
  .rw[e2]at e;cases e;omega
 .obtain⟨h1,h2,h3⟩:=H.VO k hk;exact(hset k J).trans ((G.block k h2 (λe=>h3 e.symm)).trans (H.kp k hk))
end
structure Jn (Z:WK)(rb:tyN)(wr:tyW)(S:WD)(evs:List D6)(lv:tyV)(cs:Array Value):Prop where
 wd:∃N va vl ow,Wd Z wr S N va vl ow/\ow rb=0
 WJ:Z.w1.heap.size<=rb
 blk:BR wr rb cs 32
 row:CU wr (rb+1) lv evs
section
variable {Z:WK}{AH:List (List CD)}{stat:Nat->Prop}{rb m:tyN}{wr:tyW}{S:WD}{evs:List D6}{lv:tyV}{cs:Array Value}
theorem Ci.fin{X:Nat->Prop}{wX:tyW}(H:Ci Z AH stat rb X wX m wr S evs lv):Jn Z rb wr S evs lv #[lv,(),sN,sN,sN]:=by
 obtain⟨N,va,vl,ow,h1,h2,h3,h4,h5⟩:=H.wd;exact⟨⟨N,va,vl,ow,h1,h4⟩,H.WJ,H.blk,H.row⟩
theorem Jn.lt(H:Jn Z rb wr S evs lv cs):rb<wr.heap.size:=(gE H.blk).1
theorem Jn.grow(H:Jn Z rb wr S evs lv cs)(u:Up wr W):Jn Z rb W S evs lv cs:=by
 obtain⟨N,va,vl,ow,h1,h2⟩:=H.wd;exact⟨⟨N,va,vl,ow,h1.grow u,h2⟩,H.WJ,(u.block _ H.lt).trans H.blk,H.row.up u⟩
theorem Jn.set(H:Jn Z rb wr S evs lv cs)(j:tyN)(v:tyV):Jn Z rb (wr.setCell (aD rb j) v) S evs lv (cs.setIfInBounds j v):=by
 obtain⟨N,va,vl,ow,hW,h0⟩:=H.wd;have hZB:Z.B<=rb:=DB hW.Bw H.WJ;have hset:∀k,k≠rb->hSM (wr.setCell (aD rb j) v) wr k:=λk hk=>BF wr ⟨rb,j,none⟩ _ k hk
 refine⟨⟨N,va,vl,ow,?_,h0⟩,H.WJ,AT H.blk j v,AS H.row λk e=>hset k (λe2=>by have:=(CX H.row k e).1;omega)⟩;exact hW.keep ((Hx Z.B wr).setCell (p:=aD rb j) hZB _) (λk hk h=>hset k (λe=>h (by rw[e];exact h0))) (λk hk h=>hset k (by have:=H.WJ;omega))
theorem Jn.up(H:Jn Z rb wr S evs lv cs)(u:Up w Z.w1)(hB:w.heap.size<=Z.B):Up w wr:=by
 obtain⟨N,va,vl,ow,hW,h0⟩:=H.wd;exact DL u (KX hW.up hB)
theorem Ci.up{X:Nat->Prop}{wX:tyW}(H:Ci Z AH stat rb X wX m wr S evs lv)(u:Up w Z.w1)(hB:w.heap.size<=Z.B):Up w wr:=H.fin.up u hB
theorem Jn.now(H:Jn Z rb wr S evs lv cs):Calls Tryz.prog 27 #[pT Z.b] wr λe w'=>e=BA S.now/\w'=wr:=by
 obtain⟨N,va,vl,ow,hW,h0⟩:=H.wd;exact jt hW
theorem Jn.AAs(H:Jn Z rb wr S evs lv cs)(hZ:bV Z):Calls Tryz.prog 28 #[Z.n,.func (.func 29) #[pT Z.b] #[]] wr λe w'=>(∃A m c,e=BA (AR A m c))/\Up wr w':=by
 obtain⟨N,va,vl,ow,hW,h0⟩:=H.wd;refine M1 29 _ Z.n hZ.n8 wr (λargs W=>rfl) λt ht W' u=>(iO (hW.grow u) hZ ht).mono ?_
 rintro e w'' ⟨rfl,rfl⟩;exact⟨⟨_,rfl⟩,AV _⟩
theorem Jn.AAR(H:Jn Z rb wr S evs lv cs)(hZ:bV Z):Calls Tryz.prog 28 #[Z.n,.func (.func 31) #[pT Z.b] #[]] wr λe w'=>(∃A m c,e=BA (AR A m c))/\Up wr w':=by
 obtain⟨N,va,vl,ow,hW,h0⟩:=H.wd;refine M1 31 _ Z.n hZ.n8 wr (λargs W=>rfl) λt ht W' u=>(fx (hW.grow u) hZ ht).mono ?_
 rintro e w'' ⟨rfl,rfl⟩;exact⟨⟨_,rfl⟩,AV _⟩
theorem Jn.vP(H:Jn Z rb wr S evs lv cs)(L:N7 Z AH stat)(hF:∀t,t<S.n->(S.AU t).prog=AH.getD t []):Calls Tryz.prog 28 #[Z.n,.func (.func 30) #[pT Z.b] #[]] wr λe w'=>(∃A m c,e=BA (AR A m c))/\Up wr w':=by
 obtain⟨N,va,vl,ow,hW,h0⟩:=H.wd;refine M1 30 _ Z.n L.z.n8 wr (λargs W=>rfl) λt ht W' u=>?_
 obtain⟨A,pc,hpv,-⟩:=L.pr t ht;rw[<-hF t (by rw[hW.n];exact ht)]at hpv;refine(ag (hW.grow u) L.z ht hpv).mono ?_;rintro e w'' ⟨rfl,h⟩;exact⟨⟨_,rfl⟩,h⟩
end
theorem Ev(i:tyN)(h:i<=1000000):Value.int .i64 (wrap64 ((i:tyI)+1))=O ((i+1:tyN):tyI):=by
 rw[IntWalk.wrap64_in _ J];rfl
theorem Gj(i n:tyN)(h:i<n)(h2:n<=1000000):n-(intOf (O (wrap64 ((i:tyI)+1)))).toNat<n-(intOf (O (i:tyI))).toNat:=by
 rw[IntWalk.wrap64_in _ J];show n-((i:tyI)+1).toNat<n-(i:tyI).toNat;omega
theorem FO(i n:tyN)(h:i<n):n-(intOf (O ((i:tyI)+1))).toNat<n-(intOf (O (i:tyI))).toNat:=by
 show n-((i:tyI)+1).toNat<n-(i:tyI).toNat;omega
def Zi:Array Value:= #[.slice none 0 0,.int .i64 0,.slice none 0 0,.slice none 0 0,.slice none 0 0]
structure cW (Sd:World->Value->Prop)(M:MD)(sc:MN)(l:List SD):Prop where
 ok:XK sc
 fit:Fit l
 many:M.many=Cl l l.length
 fresh:M.fresh=Gs l
 draws:M.draws=sc.draws
 few:LS M sc.AH
 pE:EE M
 ov:∀W v,Sd W v->∃q n c,v=BG q 0 n c
 do':∀(B:tyN) (W1:tyW) (b g h c1:tyN) (ov dv:tyV) (Bj:List Value) (stat:Nat->Prop),Sd W1 ov->(∀k,k<B->k<W1.heap.size->stat k)->(∃q n c,ov=BG q 0 n c/\q<B)->B<=W1.heap.size->aY (yp B W1 b g h sc.AH.length c1 l ov dv Bj M) sc.AH stat
structure AFE (M:MD)(sc:MN)(W0 w1:tyW)(Z:WK)(stat:Nat->Prop):Prop where
 en:Z.n=sc.AH.length
 ew:Z.w1=w1
 eM:Z.M=M
 L:N7 Z sc.AH stat
 D:aY Z sc.AH stat
 B:W0.heap.size<=Z.B
 up:Up W0 Z.w1
 run:Ci Z sc.AH stat w1.heap.size (λ_=>False) w1 0 (w1.alloc (Y Zi 32)) (Cv sc.AH) [] sN
theorem qO{Sd:World->Value->Prop}{M:MD}(R:cW Sd M sc l){W0 w1:tyW}{e:Ending}(h:km Sd W0 sc l e w1):∃Z stat,e=BA (.tuple #[pT Z.b,()])/\AFE M sc W0 w1 Z stat:=by
 obtain⟨b,h,B,X,ov,dv,tv,Bj,rfl,H⟩:=h;have hq:=R.ov _ _ H.ob;obtain⟨g,c1,ow,V0,hgb,hW,hL,h0⟩:=jp H R.ok.n.1 R.ok.n.2 (λi hi=>by have:=(R.ok.pl i hi).1;omega) R.ok.d R.fit M R.many R.fresh R.draws hq;have hBs:B<=w1.heap.size:=by have:=H.Bb;have:=(gE H.blk).1;omega
 refine⟨yp B w1 b g h sc.AH.length c1 l ov dv Bj M,λk=>k<w1.heap.size/\ow k=0,rfl,rfl,rfl,rfl,hL,R.do' _ _ _ _ _ _ _ _ _ _ H.ob (λk h1 h2=>⟨h2,h0 k h1⟩) ?_ hBs,H.Bw,H.up,?_⟩
 .obtain⟨q,n,c,e⟩:=hq;exact⟨q,n,c,e,H.oq q n c e⟩
 .have u1:=(AV w1).alloc (Y Zi 32);refine⟨⟨0,_,_,ow,hW.grow u1,A9 _,λj hj=>hj.2,hW.free (A9 _),λj hj=>by simp[Value.ownBlock]at hj,λk hk=>hk.elim⟩,Fits.start _ _,⟨[],GInv.start _ _ R.ok.n.2 R.pE.off⟩,A9 _,Ah w1 _,CU.nil _ _,A9 _,λk hk=>hk.elim,λk hk=>hk.elim⟩
def V3 (ps:List BL)(i:tyN):Nat:=(B3 (ps.take i)).toNat+i
theorem wE{ps:List BL}(h:∀i,i<ps.length->DT n (ps.getD i Bd))(hk:ps.length<=400)(ht:B3 ps<=4000):∀i,i<=ps.length->V3 ps i<=4400:=by
 have hmono:∀d i,i+d=ps.length->B3 (ps.take i)<=B3 (ps.take ps.length):=by
  intro d
  induction d with
  |zero=>intro i hi;rw[show i=ps.length by omega];omega
  |succ d ih=>
   intro i hi;have h1:=ih (i+1) J;rw[Gm ps J]at h1;have h2:=h i J;rcases h2.2 with h3|h3<;>omega
 intro i hi;have h1:=hmono (ps.length-i) i J;rw[IR]at h1;unfold V3;omega
theorem Qn{ps:List BL}(h:∀i,i<ps.length->DT n (ps.getD i Bd))(hi:i<ps.length):V3 ps (i+1)=V3 ps i+(ps.getD i Bd).times.toNat+1:=by
 have h1:=(Tc h i J).1;have h2:=h i hi;unfold V3;rw[Gm ps hi];rcases h2.2 with h3|h3<;>omega
section
variable {Z:WK}{AH:List (List CD)}{stat:Nat->Prop}{rb:tyN}{X:Nat->Prop}{wX wr:tyW}{lv:tyV}{M:MD}{S:WD}{e0:List D6}{ps:List BL}
theorem Ci.vy{j:tyN}(H:Ci Z AH stat rb X wX (m+j+1) wr (EQ M t (Bv M t j S).1) ((e0++(Bv M t j S).2)++KR M t (Bv M t j S).1) lv):Ci Z AH stat rb X wX (m+(j+1)) wr (Bv M t (j+1) S).1 (e0++(Bv M t (j+1) S).2) lv:=by
 rw[Jt]at H;exact H
theorem Ci.AAo(h:∀i,i<ps.length->DT n (ps.getD i Bd))(hi:i<ps.length)(hh:(ps.getD i Bd).halt=true)(H:Ci Z AH stat rb X wX (V3 ps i+1) wr (ID (ps.getD i Bd).thread.toNat (B7 M ps i S).1) ((B7 M ps i S).2++JV (ps.getD i Bd).thread.toNat (B7 M ps i S).1) lv):
  Ci Z AH stat rb (λ_=>False) wY (V3 ps (i+1)) wr (B7 M ps (i+1) S).1 (B7 M ps (i+1) S).2 lv:=by
 have e1:IJ M (ps.getD i ⟨0,0,true⟩) (B7 M ps i S).1=(ID (ps.getD i Bd).thread.toNat (B7 M ps i S).1,JV (ps.getD i Bd).thread.toNat (B7 M ps i S).1):=AK hh
 have e2:B7 M ps (i+1) S=(ID (ps.getD i Bd).thread.toNat (B7 M ps i S).1,(B7 M ps i S).2++JV (ps.getD i Bd).thread.toNat (B7 M ps i S).1):=by
  show((IJ M (ps.getD i ⟨0,0,true⟩) (B7 M ps i S).1).1,(B7 M ps i S).2++(IJ M (ps.getD i ⟨0,0,true⟩) (B7 M ps i S).1).2)=_;rw[e1]
 rw[e2];exact(H.drop wY).more (by rw[Qn h hi];omega)
theorem Ci.vJ(h:∀i,i<ps.length->DT n (ps.getD i Bd))(hi:i<ps.length)(hh:(ps.getD i Bd).halt=false)(H:Ci Z AH stat rb X wX (V3 ps i+(ps.getD i Bd).times.toNat) wr (Bv M (ps.getD i Bd).thread.toNat (ps.getD i Bd).times.toNat (B7 M ps i S).1).1 ((B7 M ps i S).2++(Bv M (ps.getD i Bd).thread.toNat (ps.getD i Bd).times.toNat (B7 M ps i S).1).2) lv):
  Ci Z AH stat rb (λ_=>False) wY (V3 ps (i+1)) wr (B7 M ps (i+1) S).1 (B7 M ps (i+1) S).2 lv:=by
 have e1:IJ M (ps.getD i ⟨0,0,true⟩) (B7 M ps i S).1=Bv M (ps.getD i Bd).thread.toNat (ps.getD i Bd).times.toNat (B7 M ps i S).1:=AI (by rw[show ps.getD i ⟨0,0,true⟩=ps.getD i Bd from rfl,hh];decide)
 have e2:B7 M ps (i+1) S=((Bv M (ps.getD i Bd).thread.toNat (ps.getD i Bd).times.toNat (B7 M ps i S).1).1,(B7 M ps i S).2++(Bv M (ps.getD i Bd).thread.toNat (ps.getD i Bd).times.toNat (B7 M ps i S).1).2):=by
  show((IJ M (ps.getD i ⟨0,0,true⟩) (B7 M ps i S).1).1,(B7 M ps i S).2++(IJ M (ps.getD i ⟨0,0,true⟩) (B7 M ps i S).1).2)=_;rw[e1]
 rw[e2];exact(H.drop wY).more (by rw[Qn h hi];omega)
theorem Ci.vf{j:tyN}{EV:List D6}(hS:(Bv M t j S).1=S1)(hE:e0++(Bv M t j S).2=evs)(hV:KR M t S1=EV)(H:Ci Z AH stat rb X wX (m+j+1) wr (EQ M t S1) (evs++EV) lv):Ci Z AH stat rb X wX (m+(j+1)) wr (Bv M t (j+1) S).1 (e0++(Bv M t (j+1) S).2) lv:=by
 subst hS hE hV;exact H.vy
theorem Ci.zq{tn:tyN}{EV:List D6}(hS:(B7 M ps i S).1=S1)(hE:(B7 M ps i S).2=evs)(hV:JV tn S1=EV)(hp:ps.getD i Bd=⟨tn,0,true⟩)(h:∀i,i<ps.length->DT n (ps.getD i Bd))(hi:i<ps.length)(H:Ci Z AH stat rb X wX (V3 ps i+1) wr (ID tn S1) (evs++EV) lv):
  Ci Z AH stat rb (λ_=>False) wY (V3 ps (i+1)) wr (B7 M ps (i+1) S).1 (B7 M ps (i+1) S).2 lv:=by
 subst hS hE hV;refine Ci.AAo h hi (by rw[hp]) (X:=X) (wX:=wX) ?_;rw[hp];exact H
theorem Ci.O9{tn mn:tyN}(hS:(B7 M ps i S).1=S1)(hE:(B7 M ps i S).2=evs)(hp:ps.getD i Bd=⟨tn,mn,false⟩)(h:∀i,i<ps.length->DT n (ps.getD i Bd))(hi:i<ps.length)(H:Ci Z AH stat rb X wX (V3 ps i+mn) wr (Bv M tn mn S1).1 (evs++(Bv M tn mn S1).2) lv):
  Ci Z AH stat rb (λ_=>False) wY (V3 ps (i+1)) wr (B7 M ps (i+1) S).1 (B7 M ps (i+1) S).2 lv:=by
 subst hS hE;refine Ci.vJ h hi (by rw[hp]) (X:=X) (wX:=wX) ?_;rw[hp];exact H
end
theorem DC{α:Type}:∀(o:Op α) {n m:tyN},o.few n->n<=m->o.few m
 | .ret v,n,m,h,hle=>trivial
 | .ask a k,n,m,h,hle=>λx=>DC (k x) (h x) hle
 | .get i k,n,m,h,hle=>λx=>DC (k x) (h x) hle
 | .set i v k,n,m,h,hle=>DC k h hle
 | .note c k,n,m,h,hle=>by
  obtain⟨j,h1,h2⟩:=h;exact⟨m-1,J,DC k h2 J⟩
 | .live k,n,m,h,hle=>λb=>DC (k b) (h b) hle
theorem OA{α:Type}{c:tyI}{k:Op α}(h:k.few n):(Op.note c k).few (n+1):=⟨n,rfl,h⟩
theorem fM{α β:Type}(o:Op α)(f:α->Op β)(h:o.few 0)(hf:∀v,(f v).few n):(o.bind f).few n:=by
 have:=Ey o f 0 n h hf;rwa[Dw]at this
theorem Zf{F:tyN}:(Mr n base me F).few 3:=OA (n:=2) λ_=>OA (n:=1) (OA (n:=0) trivial)
theorem Xg{loc:tyI}{F:tyN}:(Ir AW n room base loc me F).few 3:=Zf
theorem Xr{loc:tyI}:(IX AW n base loc me).few 1:=OA (n:=0) λx=>trivial
theorem ZY{mine:tyI}{acq:Op Int}(h:acq.few n):(IZ (I3 mine acq)).few n:=by
 have h1:(I3 mine acq).few n:=λx=>by
  show(if x=1 then(.ret 10:Op Int)else _).few n;split
  .trivial
  .have:=Ey acq (λe=>if e=0 then Op.set mine 1 (.ret e)else .ret e) n 0 h (λe=>by split<;>exact trivial);rw[LB]at this;exact this
 have:=Ey (I3 mine acq) (λe=>(.ret (e,0):Op RD)) n 0 h1 (λe=>trivial);rw[LB]at this;exact this
theorem ZK{mine:tyI}{rel:Op Unit}(h:rel.few n):(IZ (Iy mine rel)).few n:=by
 have h1:(Iy mine rel).few n:=λx=>by
  show(if x=1 then _ else(.ret 9:Op Int)).few n;split
  .have:=Ey rel (λ_=>(Op.set mine 0 (.ret 0):Op Int)) n 0 h (λe=>trivial);rw[LB]at this;exact this
  .trivial
 have:=Ey (Iy mine rel) (λe=>(.ret (e,0):Op RD)) n 0 h1 (λe=>trivial);rw[LB]at this;exact this
def ZA (AW:tyI)(n:tyN)(room:tyI)(draws:tyL):MD:=
 ⟨λt c=>if c.1=1 then IZ (I3 (ER AW) (Ir AW n room 0 0 t 6000))else IZ (Iy (ER AW) (IX AW n 0 0 t)),Cl (Bc AW n room) (Bc AW n room).length,Gs (Bc AW n room),draws⟩
structure fK (AW:tyI)(n:tyN)(room:tyI)(sc:MN):Prop where
 ok:XK sc
 len:sc.AH.length=n
 th:sc.things=[⟨1,AW,1,room,0,0,0,0⟩]
 pos:∀i,i<sc.AH.length->0<(sc.AH.getD i []).length
 ops:∀t c,c∈sc.AH.getD t []->(c.1=1\/c.1=2)/\c.2.1=0
 lk:Mi AW n 0 room
theorem pZ{draws:tyL}(AH:List (List CD)):LS (ZA AW n room draws) AH:=λt c _=>by
 show(if c.1=1 then _ else _:Op RD).few 1000;split
 .exact DC _ (ZY Xg) AQ
 .exact DC _ (ZK Xr) AQ
theorem Hc(l:List SD)(c:tyI):(Gs l c).value=0/\(0<=(Gs l c).top/\(Gs l c).top<=1099511627776)/\∀t,((Gs l c).B1 t).on=false:=by
 unfold Gs;have hc:∀t:Int,0<=BC t 0 1099511627776/\BC t 0 1099511627776<=1099511627776:=λt=>Ov t
 split
 .rename_i s _;exact⟨rfl,hc s.top,λ_=>rfl⟩
 .exact⟨rfl,hc 0,λ_=>rfl⟩
theorem iF{draws:tyL}:EE (ZA AW n room draws):=
 ⟨λc=>(Hc _ c).1,λc=>(Hc _ c).2.1,λc t=>(Hc _ c).2.2 t⟩
theorem NC(h:Mi AW n 0 room):F5 (Bc AW n room) (Bc AW n room).length=true/\Cl (Bc AW n room) (Bc AW n room).length=G3 AW n:=by
 obtain⟨hn1,hn2⟩:=h.n;obtain⟨hr1,hr2⟩:=h.room
 have f1:Gd ⟨n,1,1⟩=true:=by
  unfold Gd;simp
 have m0:Jg (n:tyI) 32769=n:=by unfold Jg;rw[AI J]
 have m1:Jg (0+(n:tyI)) 32769=n:=by unfold Jg;rw[AI J];omega
 obtain rfl:=h.AW;have e:Bc 2 n room=[⟨n,1,1⟩]:=rfl;have e2:G3 2 n=n:=rfl;rw[e,e2]
 constructor
 .show((List.range 1).all λi=>Gd (([⟨n,1,1⟩]:List SD).getD i Fo))=true;rw[Ts];intro i hi;rw[Dz]at hi
  match i,hi with
  |0,_=>exact f1
 .show Jg (0+Jg (n:tyI) 32769) 32769=n;rw[m0,m1]
theorem Mx(h:Mi AW n 0 room):0<=G3 AW n/\G3 AW n<=16:=by
 have:=h.n;obtain rfl:=h.AW;show 0<=(n:tyI)/\(n:tyI)<=16;omega
theorem Na(h:Mi AW n 0 room):Fit (Bc AW n room):=by
 obtain⟨h1,h2⟩:=NC h;refine⟨h1,by rw[h2];have:=Mx h;omega,?_⟩;show 1<=100000;omega
theorem Rx(h:Mi AW n 0 room):(countP (Bc AW n room)).2=0:=by
 obtain⟨h1,h2⟩:=NC h;unfold countP;rw[AK h1,h2,AI (by have:=Mx h;omega)]
theorem ay(k n ww rd tp sz:tyI)(l:List SD)(b off tc:tyN)(w:tyW)(hn:1<=n/\n<=8)
  (c0:V w b off (O 7)) (c1:V w b (off+1) ()) (c2:V w b (off+2) ()) (c3:V w b (off+3) ()) (c4:V w b (off+4) k) (c5:V w b (off+5) ww) (c6:V w b (off+6) rd) (c7:V w b (off+7) tp)
  (hL:∀W,Calls Tryz.prog 75 #[.agg #[O 7,(),(),(),k,ww,rd,tp],n,(),()] W λe w'=>e=BA (.tuple #[.agg (FC k ww rd tp n),true])/\Up W w')
  (hS:∀W,Calls Tryz.prog 77 #[.agg (FC k ww rd tp n)] W λe w'=>(∃v,e=BA v/\BK w' W.heap.size v l)/\Up W w')
  (hZ:∀W,Calls Tryz.prog 78 #[.agg (FC k ww rd tp n)] W λe w'=>e=BA sz/\Up W w')
  (hl:l.length<=1000) (hm:∀i,i<l.length->0<=(l.getD i Fo).many/\(l.getD i Fo).many<=1000) (hsz:0<=sz/\sz<=32768):
  Calls Tryz.prog 49 #[BG b off 1 tc,n] w λe w'=> ∃ov,e=BA (.tuple #[ov,()])/\Tv w w' ov (iV k ww rd tp n):=by
 have HL:=I hL;have HS:=I hS;have HZ:=I hZ;have HC:=I (λ(W:tyW) (A:tyA) (c:tyN) (h:Dx W A l)=>NV l A c W hl h hm);have hmm:=Lc hm l.length (A9 _);rw[IR]at hmm;obtain⟨ml,G8⟩:=gX (C8 l);rw[G8]at HC hmm;have w1:wrap64 (0+ml)=ml:=by rw[Rz];exact IntWalk.wrap64_in _ J
 have w2:wrap64 (0+sz)=sz:=by rw[Rz];exact IntWalk.wrap64_in _ J
 have f1:¬(n<1):=J;have f2:¬(8<n):=J;have hb:=Ah w (Y #[O 7,(),(),(),k,ww,rd,tp] 46);have hu:=(AV w).alloc (Y #[O 7,(),(),(),k,ww,rd,tp] 46);obtain⟨W0,hW0⟩:=gX (w.alloc (Y #[O 7,(),(),(),k,ww,rd,tp] 46));rw[hW0]at hb hu;have k0:=cI hb 0;have k1:=cI hb 1;have k2:=cI hb 2;have k3:=cI hb 3;have k4:=cI hb 4;have k5:=cI hb 5;have k6:=cI hb 6;have k7:=cI hb 7;have HU:=I hu;clear hL hS hZ hb hu hl hm G8 hmm hsz hn;go_enter Tryz.func49,Tryz.ntmps49;go_wp2_with fail
 go_loopw[6,7,8,24] (λov cv lv iv wr=>(iv=()/\ov=sN/\cv=()/\lv=()/\wr=w)\/(iv=O 1/\Hid (Tv w wr ov (iV k ww rd tp n)))) (λ_ _ _ iv _=>(1-intOf iv).toNat)
 case atStart=>exact .inl ⟨rfl,rfl,rfl,rfl,rfl⟩
 case round=>
  rcases hrel with⟨rfl,rfl,rfl,rfl,rfl⟩|⟨rfl,HN⟩
  .go_wp2_with fail;refine(HL _).mono ?_;rintro e w1 ⟨rfl,hu1⟩;have GR:=I (HU.trans hu1);clear hu1 c0 c1 c2 c3 c4 c5 c6 c7 k0 k1 k2 k3 k4 k5 k6 k7 HU hW0 HL;have OE:BR (w1.alloc (Y GL 132)) w1 GL 132:=Ah w1 _;have dj:=World.setRow_alloc_new w1 GL (FC k ww rd tp n) 132
   go_upto_region 11 with(first
    |(refine RH rfl 132 (.tmp 11) (.tmp 34) rfl w1.heap.size (FC k ww rd tp n) rfl rfl 132 GL OE Ay rfl (by simp[Value.oneCell']) ?_))
   try rw[dj]
   clear OE dj;have hk2:=Ah w1 (Y (FC k ww rd tp n) 132);have hu2:=(AV w1).alloc (Y (FC k ww rd tp n) 132);obtain⟨W2,hW2⟩:=gX (w1.alloc (Y (FC k ww rd tp n) 132));obtain⟨qb,UV⟩:=gX w1.heap.size;rw[hW2]at hk2 hu2|-;rw[UV]at hk2|-;have Kq:=I hk2;have Cm:=I (GR.trans hu2);have HQL:=I (gE hk2).1;clear hW2 UV hk2 hu2;have MK:=I (show wr.heap.size<=W2.heap.size from Cm.size)
   go_upto_region 14 with(first
    |(refine Hl rfl 132 (.tmp 11) rfl qb rfl 132 (FC k ww rd tp n) (0,0) _ Kq Tryz.underlying132 rfl Ay ?_)
    |(at_builtin;refine Jk (news:=[.int .i64 7,.int .i64 0,.int .i64 0,.int .i64 0,.int .i64 k,.int .i64 ww,.int .i64 rd,.int .i64 tp,.int .i64 0,.int .i64 0,.int .i64 0,.int .i64 0,.int .i64 0,.int .i64 0,.int .i64 k,.int .i64 0,.int .i64 0,.int .i64 n,.int .i64 ww,.int .i64 rd,.int .i64 tp,.int .i64 0,.int .i64 0]) rfl (.tmp 38) (.tmp 40) 97 rfl wr.heap.size (gi I5) _ _ _ Tryz.underlying97 (g0 I5) (g1 I5) (g2 I5) (g3 I5) rfl AQ _ 0 [] rfl (C3 _ _ _ _) rfl rfl (by simp[Value.oneCell']) AQ AQ MK ?_;intro g5 cap5 w5 hown5 hg5 bJ KJ Lf))
   have MC:=I ((hg5.block qb HQL (show some qb≠(none:Option Nat)from Az)).trans Kq);have Kr:=I (show Up wr w5 from DL Cm Lf);have UU:=I hown5;clear hown5 hg5 bJ KJ Lf;go_wp2_with(refine Hl rfl 132 (.tmp 11) rfl qb rfl 132 (FC k ww rd tp n) (0,0) _ MC Tryz.underlying132 rfl Ay ?_)
   refine(HS _).mono ?_;rintro e w6 ⟨⟨v,rfl,hv⟩,Kb⟩;obtain⟨Av,cv,rfl,hat⟩:=hv.at';have HAT:=I hat;have M6:=I ((Kb.block _ (gE MC).1).trans MC);have ME:=I (Kr.trans Kb);have OJ:=I (AS UU λk e=>Kb.block k (UU.lt k e).2);clear Kb hv hat Kq Cm HQL MK MC Kr UU;go_wp2_with fail;refine(HC _ _ _ HAT).mono ?_;rintro e w7 ⟨rfl,Qd⟩;have Yo:=I ((Qd.block _ (gE M6).1).trans M6);have o8:=I (ME.trans Qd);have Yq:=I (AS OJ λk e=>Qd.block k (OJ.lt k e).2);clear Qd HAT M6 ME OJ;go_wp2_with(refine Hl rfl 132 (.tmp 11) rfl qb rfl 132 (FC k ww rd tp n) (0,0) _ Yo Tryz.underlying132 rfl Ay ?_)
   refine(HZ _).mono ?_;rintro e w8 ⟨rfl,Vs⟩;have xV:=I (show Tv wr w8 (BG g5 0 1 cap5) (iV k ww rd tp n)from⟨o8.trans Vs,AS Yq λk e=>Vs.block k (Yq.lt k e).2⟩);clear Vs Yo o8 Yq
   go_wp2
   go_roundw
   case rel=>exact .inr ⟨by first|rfl|go_num,xV⟩
   case measure=>simp[intOf]
  .have sD:=I HN.out;clear HN c0 c1 c2 c3 c4 c5 c6 c7 k0 k1 k2 k3 k4 k5 k6 k7 hW0
   go_wp2
   go_ret2;exact⟨_,rfl,sD⟩
theorem Sy(k n ww rd tp:tyI)(l:List SD)(g cap:tyN)(w:tyW)(hl:l.length<=1000)
  (hc:∀j u,((iV k ww rd tp n):List Value)[j]?=some u->V w g j u)
  (hS:∀W,Calls Tryz.prog 77 #[.agg (FC k ww rd tp n)] W λe w'=>(∃v,e=BA v/\BK w' W.heap.size v l)/\Up W w'):
  Calls Tryz.prog 51 #[BG g 0 1 cap] w λe w'=> ∃ov,e=BA ov/\gz w w' ov l:=by
 have HS:=I hS;have HR:=I (show w.rangeAt g 0 (iV k ww rd tp n)from λj u h=>by rw[Dw];exact hc j u h);have xB:=I hl;clear hS hc hl;go_enter Tryz.func51,Tryz.ntmps51;go_wp2_with fail
 go_loopw[3,8] (λov iv wr=>(iv=()/\ov=sN/\wr=w)\/(iv=O 1/\Hid (gz w wr ov l))) (λ_ iv _=>(1-intOf iv).toNat)
 case atStart=>exact .inl ⟨rfl,rfl,rfl⟩
 case round=>
  rcases hrel with⟨rfl,rfl,rfl⟩|⟨rfl,HN⟩
  .have OE:BR (wr.alloc (Y GL 132)) wr GL 132:=Ah wr _;have dj:=World.setRow_alloc_new wr GL (FC k ww rd tp n) 132
   go_upto_region 5 with(first
    |(refine bo rfl 132 (.tmp 10) rfl g 0 ?_ (iV k ww rd tp n) _ HR Tryz.underlying132 rfl Ay ?_; · (first|rfl|(simp;done)))
    |(refine RH rfl 132 (.tmp 5) (.tmp 11) rfl wr.heap.size (FC k ww rd tp n) rfl rfl 132 GL OE Ay rfl (by simp[Value.oneCell']) ?_))
   try rw[dj]
   clear OE dj;have hk2:=Ah wr (Y (FC k ww rd tp n) 132);have hu2:=(AV wr).alloc (Y (FC k ww rd tp n) 132);obtain⟨W2,hW2⟩:=gX (wr.alloc (Y (FC k ww rd tp n) 132));obtain⟨qb,UV⟩:=gX wr.heap.size;rw[hW2]at hk2 hu2|-;have HQB:=I UV;rw[UV]at hk2|-;have Kq:=I hk2;have Cm:=I hu2;clear hW2 UV hk2 hu2;go_wp2_with(refine Hl rfl 132 (.tmp 5) rfl qb rfl 132 (FC k ww rd tp n) (0,0) _ Kq Tryz.underlying132 rfl Ay ?_)
   refine(HS _).mono ?_;rintro e w6 ⟨⟨v,rfl,hv⟩,Kb⟩;have HV:=I hv;have ME:=I (Cm.trans Kb);have EK:=I (show wr.heap.size<=w6.heap.size from ME.size);have hbb:(0+l.length)*24<=140737488355328:=by have:=xB.out;omega
   clear Kb hv Kq Cm;go_upto_region 6 with(at_builtin;refine Dm rfl (.tmp 12) (.tmp 14) 103 rfl wr.heap.size 152 (gi EG) _ _ _ Tryz.underlying103 (g0 EG) (g1 EG) (g2 EG) (g3 EG) rfl AQ _ 0 [] rfl (C3 _ _ _ _) W2.heap.size _ l.length (l.flatMap stripL) rfl HV (Ns l) AQ hbb EK ?_;intro v5 w5 hown5 hg5 Lf bJ)
   have xV:=I (show gz wr w5 v5 l from⟨DL ME Lf,by
    unfold BK
    simpa using hown5⟩)
   clear hown5 hg5 Lf bJ hbb
   go_wp2
   go_roundw
   case rel=>exact .inr ⟨by first|rfl|go_num,xV⟩
   case measure=>simp[intOf]
  .have sD:=I HN.out;clear HN
   go_wp2
   go_ret;exact⟨_,rfl,sD⟩
end
end Go.Proofs.YtpodgcpkccpnfaaGreat
