import Derived.Test.YtpodgcpkccpnfaaGreatPk14
set_option linter.unusedVariables false
set_option linter.unusedSimpArgs false
set_option maxRecDepth 20000
set_option maxHeartbeats 40000000
namespace Go.Proofs.YtpodgcpkccpnfaaGreat
variable{P:List CD}{Bj:List Value}{k n zb:Nat}{pv:Value}{w:World}
section
open Go.RowKit
def QX (M:MD)(sc:MN)(w:tyW)(e:Ending)(w':tyW):Prop:= ∃A0 c0 A2 n2 c2 A3 n3 c3 A4 n4 c4 q,e=BA (.tuple #[.agg #[AR A0 (B7 M sc.picks sc.picks.length (Cv sc.AH)).2.length c0,O (B7 M sc.picks sc.picks.length (Cv sc.AH)).1.now,AR A2 n2 c2,AR A3 n3 c3,AR A4 n4 c4],()])/\
 CU w' q (AR A0 (B7 M sc.picks sc.picks.length (Cv sc.AH)).2.length c0) (B7 M sc.picks sc.picks.length (Cv sc.AH)).2/\w.heap.size<=q/\Up w w'/\(B7 M sc.picks sc.picks.length (Cv sc.AH)).2.length<=100000000
theorem Xq{sc:MN}{a:V4}{l:List SD}{M:MD}(Sd:World->Value->Prop)(w:tyW)(hs:EF w sc a)(R:cW Sd M sc l)
  (hnew:∀W,Up w W->Calls Tryz.prog 24 #[.agg (gQ a sc)] W (km Sd W sc l)):
  Calls Tryz.prog 9 #[.agg (gQ a sc)] w (QX M sc w):=by
 have HB0:Hid (G2 w (w.alloc (Y (FW sc a) 27)) (FW sc a)):=I ⟨AV _⟩;have QJ:=I (λ(wr:tyW) (h:G2 w wr (FW sc a))=>show V wr w 0 (AR a.TA sc.things.length a.tc)/\V wr w 1 (AR a.PA sc.AH.length a.pc)/\V wr w 2 (AR a.KA sc.picks.length a.kc)/\V wr w 3 (AR a.DA sc.draws.length a.dc)from⟨h.cell 0,h.cell 1,h.cell 2,h.cell 3⟩);have HS:=I hs;have HR:=I R;have sg:=I hnew;clear hs R hnew;obtain⟨Ws,hWs⟩:=gX (w.alloc (Y (FW sc a) 27));have hss:Ws.heap.size=w.heap.size+1:=by rw[<-hWs];exact Cy _ _
 rw[hWs]at HB0;unfold FW at hWs;have hrz:=Ah Ws (Y Zi 32);have hu0:=(AV Ws).alloc (Y Zi 32);unfold Zi at hrz hu0;obtain⟨W0,hW0⟩:=gX (Ws.alloc (Y #[sN,(),sN,sN,sN] 32));rw[hW0]at hrz hu0;have hs0:W0.heap.size=w.heap.size+2:=by rw[<-hW0,Cy,hss]
 have HB1:=I (HB0.go hu0);have HRZ:=I hrz;have HSS:=I (And.intro hss hs0);obtain⟨c0,c1,c2,c3⟩:=QJ _ HB1;clear hrz hu0 hs0 HB0 hss;go_enter Tryz.func9,Tryz.ntmps9;go_wp2_with fail;refine(sg _ HB1.w).mono ?_;intro e w1 hq;obtain⟨Z,stat,rfl,hz⟩:=qO HR hq;have HZ:=I hz;have ADA:=I hz.B;clear hq hz sg c0 c1 c2 c3;have IK:=I (show Up W0 w1 from by have:=HZ.out.up;rwa[HZ.ew]at this);have HZW:=I HZ.ew;have HZN:=I HZ.en;have hME:=HZ.eM;subst hME;have HR0:=I HZ.run;have HL:=I HZ.L;have HD:=I HZ.D;clear HZ;have hu2:=(AV w1).alloc (Y Zi 32);unfold Zi at hu2 HR0;obtain⟨rb,hrb⟩:=gX w1.heap.size;obtain⟨W2,hW2⟩:=gX (w1.alloc (Y #[sN,(),sN,sN,sN] 32));rw[hW2]at hu2 HR0;rw[hrb]at HR0;have HB2:=I (HB1.go (IK.trans hu2));have sh:=I (show Up W0 Z.w1/\W0.heap.size<=Z.B from⟨by rw[HZW];exact IK,ADA⟩);obtain⟨c0,c1,c2,c3⟩:=QJ _ HB2;clear hu2 ADA;have oQ:=I HR.ok.pk;have yO:=I (wE HR.ok.pk HR.ok.k HR.ok.st);obtain⟨pn,hpn⟩:=gX sc.picks.length;rw[hpn]at c2;have UT:=I hpn;clear hpn;obtain⟨i0,hi',hz0,hz1,hz2⟩:=info_parts GF;have V8:=I hi';have HZ0:=I hz0;have HZ1:=I hz1;have HZ2:=I hz2;clear hi' hz0 hz1 hz2;go_wp2_with fail;clear hW2 hrb hW0 hWs c0 c1 c2 c3
 go_loopw[22] (λiv wr=> ∃i:Nat,i<=pn/\iv=O i/\Hid (∃lv,Ci Z sc.AH stat rb (λ_=>False) w1 (V3 sc.picks i) wr (B7 Z.M sc.picks i (Cv sc.AH)).1 (B7 Z.M sc.picks i (Cv sc.AH)).2 lv)) (λiv _=>pn-(intOf iv).toNat)
 case atStart=>exact⟨0,J,rfl,I ⟨_,HR0⟩⟩
 case round=>
  obtain⟨i,hi,rfl,HH⟩:=hrel;obtain⟨lv,hT⟩:=HH.out;have HT:=I hT;clear HH hT;have KI:=I (HT.up sh.1 sh.2);by_cases hlt:i<pn
  .have hii:(i:tyI)<pn:=J;have hi0:(0:tyI)<=i:=J;have Ea:=I (show i<sc.picks.length from by rw[UT];exact hlt);obtain⟨kb,ko,eK,p0,p1,p2⟩:=(HS.up (HB1.w.trans KI)).pk i Ea;have hfp:=oQ i Ea;have bQ:=I (show V3 sc.picks i+(sc.picks.getD i Bd).times.toNat<=4400 from by have:=yO.out (i+1) Ea.out;rw[Qn oQ.out Ea.out]at this;omega);obtain⟨S0,hS0⟩:=gX ((B7 Z.M sc.picks i (Cv sc.AH)).1);obtain⟨E0,hE0⟩:=gX ((B7 Z.M sc.picks i (Cv sc.AH)).2);rw[hS0,hE0]at HT;have Pw:=I hS0;have rS:=I hE0;rcases yP:sc.picks.getD i Bd with⟨pt,pm,ph⟩
   have yQ:=I yP;rw[yP]at p0 p1 p2 hfp bQ;dsimp only at p0 p1 p2 bQ;obtain⟨⟨ht0,ht1⟩,hfh⟩:=hfp;dsimp only at ht0 ht1 hfh;obtain⟨tn,rfl⟩:∃n:Nat,pt=n:=⟨pt.toNat,J⟩;have oz:=I (show tn<Z.n from by rw[HZN];have:=HR.out.ok.n.1;omega);rw[eK];obtain⟨Al,cl,rfl,_,_⟩:=Af HT.row;obtain⟨evs,QK⟩:=gX E0;subst QK;have jJ:=Ah wr (Y #[tn,pm,ph] 68);have Vs:=(AV wr).alloc (Y #[tn,pm,ph] 68);obtain⟨pb,hpb⟩:=gX wr.heap.size;obtain⟨W8,SN⟩:=gX (wr.alloc (Y #[tn,pm,ph] 68));rw[SN]at jJ Vs;rw[hpb]at jJ;have jX:=I jJ;have yR:=I (HT.box Vs);have HXB:=I (show wr.heap.size<=pb/\pb<W8.heap.size from⟨J,(gE jJ).1⟩);have q0:=cI jJ 0;have q1:=cI jJ 1;have q2:=cI jJ 2;clear hS0 hE0 yP jJ Vs HT;have HW8:=I SN;have HPB:=I hpb;clear SN q0 q1 q2;go_upto_region 8 with fail;rw[HW8];clear hpb;have jJ:=jX.out;have q0:=cI jJ 0;have q1:=cI jJ 1;have q2:=cI jJ 2;clear jJ;rcases hfh with⟨rfl,rfl⟩|⟨rfl,hm1,hm2⟩
   .as_aux_lemma=>
    go_upto_region 9 with fail;clear p0 p1 p2 q1 q2 hii hi0 hlt ht0 ht1;clear q0;have oo:=I bQ.out;have ZI:=I (λ(W:tyW) (u:Up W8 W)=>show V W rb 0 (AR Al E0.length cl)from AL (yR.grow u).blk 0);have jV:=I (λ(W:tyW) (u:Up W8 W)=>show V W pb 0 tn from AL ((u.block pb HXB.2).trans jX) 0);have SK:=I ((yR.grow (AV W8).drew).halt HL oz);obtain⟨EV,yS⟩:=gX (JV tn S0);rw[yS]at SK;have Ks:=I yS;clear yS;obtain⟨evs,QK⟩:=gX E0;rw[QK]at ZI SK rS;clear QK yR;have hT0:True:=trivial;refine Br (S:=λW=>True) Ay hT0 (λhS0=>?_);refine tq 0 hS0 ?_;refine tq 2 hS0 ?_;refine tq 3 hS0 ?_;clear hS0 hT0;refine aS (t1:=Value) (t2:=World) (F:=?F28) (G:=?G28) (λHT=>?_) ?_;rotate_left;rotate_left
    .refine Dn (rs:=[1,4]) Ay Az ?_;refine BU rfl (λK hK=>?_) (BU rfl (λK hK=>?_) Dp)
     .have kk:=ZI _ (AV _).drew;go_simp;clear kk;refine bk hK trivial λhS2=>?_
      refine tr 4 λK hK=>?_
      have kt:=jV _ (AV _).drew;go_simp;clear kt;refine bk hK trivial λGJ=>?_
      refine tr 5 λK hK=>?_
      go_simp;refine SK.mono ?_;rintro e w6 ⟨v,rfl,hM⟩;have HM:=I hM;clear hM;refine bk hK trivial λGy=>?_
      refine HT v w6 ?_;exact HM
     .have kt:=jV _ (AV _).drew;go_simp;clear kt;refine bk hK trivial λGJ=>?_
      refine Dn (rs:=[1,5]) Ay Az ?_;refine BU rfl (λK hK=>?_) (BU rfl (λK hK=>?_) Dp)
      .have kk:=ZI _ (AV _).drew;go_simp;clear kk;refine bk hK trivial λhS2=>?_
       refine tr 5 λK hK=>?_
       go_simp;refine SK.mono ?_;rintro e w6 ⟨v,rfl,hM⟩;have HM:=I hM;clear hM;refine bk hK trivial λGy=>?_
       refine HT v w6 ?_;exact HM
      .go_simp;refine SK.mono ?_;rintro e w6 ⟨v,rfl,hM⟩;have HM:=I hM;clear hM;refine bk hK trivial λGy=>?_
       refine tr 1 λK hK=>?_
       have kk:=cI HM.blk 0;go_simp;clear kk;refine bk hK trivial λhS5=>?_
       refine HT v w6 ?_;exact HM
    .intro v w6 hM;have HM:=I hM;clear hM
     as_aux_lemma=>
      refine tr 6 λK hK=>?_
      refine LV rfl (.tmp 29) (.tmp 33) 30 rfl (rb+1) 60 i0 (.agg #[(),(),(),(),(),(),()]) 7 56 Tryz.underlying30 V8 HZ0 HZ1 HZ2 rfl AQ (AR Al evs.length cl) evs.length (evs.flatMap SZ) rfl HM.row _ v EV.length (EV.flatMap SZ) rfl HM.new (NL _) AQ (by have:=HM.out.len;have:=HM.vg;have:=oo.out;omega) HM.lt ?_;intro uj w5 hown5 hg5 hb5 IL;obtain⟨Al',cl',rfl,_,_⟩:=Af hown5;have hbb:=(hg5.block rb HM.lt (λe=>by have:=(CX HM.out.row rb e.symm).1;omega)).trans HM.blk;have k0:V w5 rb 0 (AR Al evs.length cl):=AL hbb 0;have f0:w5.frozen? (aD rb 0)=false:=FD hbb 0;have HR5:=I (HM.push HL hown5 hg5 hb5 IL);clear hown5 hg5 hb5 IL hbb;refine bk hK trivial λhS6=>?_
      refine tq 7 hS6 ?_;refine tr 8 λK hK=>?_
      go_simp;refine bk hK trivial λrv=>?_
      refine CN Ay ?_ _
      try simp only[Act.put,DH,DI,DG,Ei,Ef,Ee]
      clear k0 f0
      go_wp2
      go_roundw
      case rel=>exact⟨i+1,by have:=Ea.out;have:=UT.out;omega,by have:=Ea.out;have:=HR.ok.k;first|rfl|exact Ev i J,I ⟨_,Ci.zq Pw rS Ks yQ oQ Ea HR5⟩⟩
      case measure=>have:=Ea.out;have:=UT.out;have:=HR.ok.k;first|exact FO i pn J|exact Gj i pn J J
   .as_aux_lemma=>
    obtain⟨mn,rfl⟩:∃n:Nat,pm=n:=⟨pm.toNat,J⟩;have hmn:mn<=255:=J;have AG9:=I (show V3 sc.picks i+mn<=4400 from by have h:=bQ.out;rw[Gl]at h;exact h);clear bQ;go_upto_region 10 with fail;go_wp2_with fail;clear p0 p1 p2 q1 q2 hii hi0 hlt ht0 ht1;clear q0;have HMN:=I hmn;rw[HPB]at yR HXB
    go_loopw[38] (λjv wr=> ∃j:Nat,j<=mn/\jv=O j/\Hid (∃lv,Ci Z sc.AH stat rb (λk=>pb<=k/\k<W8.heap.size) W8 (V3 sc.picks i+j) wr (Bv Z.M tn j S0).1 (E0++(Bv Z.M tn j S0).2) lv)) (λjv _=>mn-(intOf jv).toNat)
    case atStart=>as_aux_lemma=>exact⟨0,J,rfl,I ⟨_,by have h:=yR.out;rw[<-Jc E0]at h;exact h⟩⟩
    case round=>as_aux_lemma=>
     obtain⟨j,hj,rfl,HJH⟩:=hrel;obtain⟨lvj,hTJ⟩:=HJH.out;have si:=I hTJ;clear HJH hTJ;by_cases hjlt:j<mn
     .have hji:(j:tyI)<mn:=J;have hj0:(0:tyI)<=j:=J;have HJ:=I hjlt;have oo:=I (show V3 sc.picks i+j<=4400 from by have:=AG9.out;have:=HJ.out;omega);obtain⟨SJ,hSJ⟩:=gX ((Bv Z.M tn j S0).1);obtain⟨EJ,hEJ⟩:=gX (E0++(Bv Z.M tn j S0).2);rw[hSJ,hEJ]at si;have HSJ:=I hSJ;obtain⟨Al,cl,rfl,_,_⟩:=Af si.row;have ZI:=I (λ(W:tyW) (u:Up wr W)=>show V W rb 0 (AR Al EJ.length cl)from AL (si.grow u).blk 0);have jV:=I (λ(W:tyW) (u:Up wr W)=>show V W pb 0 tn from AL ((u.block pb (si.VO pb HXB).2.1).trans ((si.kp pb HXB).trans jX)) 0);have SK:=I ((si.grow (AV wr).drew).pick HL HD HR.few HR.pE (by have:=oo.out;omega) oz);obtain⟨EV,yS⟩:=gX (KR Z.M tn SJ);rw[yS]at SK;have Ks:=I yS;obtain⟨evs,QK⟩:=gX EJ;rw[QK]at ZI SK hEJ;have HEJ:=I hEJ;clear hSJ hEJ yS QK hj hjlt si;go_upto_region 12 with fail;have hT0:True:=trivial;refine Br (S:=λW=>True) Ay hT0 (λhS0=>?_);refine tq 0 hS0 ?_;refine tq 2 hS0 ?_;refine tq 3 hS0 ?_;clear hS0 hT0;refine aS (t1:=Value) (t2:=World) (F:=?F40) (G:=?G40) (λHT=>?_) ?_;rotate_left;rotate_left
      .refine Dn (rs:=[1,4]) Ay Az ?_;refine BU rfl (λK hK=>?_) (BU rfl (λK hK=>?_) Dp)
       .have kk:=ZI _ (AV _).drew;go_simp;clear kk;refine bk hK trivial λhS2=>?_
        refine tr 4 λK hK=>?_
        have kt:=jV _ (AV _).drew;go_simp;clear kt;refine bk hK trivial λGJ=>?_
        refine tr 5 λK hK=>?_
        go_simp;refine SK.mono ?_;rintro e w6 ⟨v,rfl,hM⟩;have HM:=I hM;clear hM;refine bk hK trivial λGy=>?_
        refine HT v w6 ?_;exact HM
       .have kt:=jV _ (AV _).drew;go_simp;clear kt;refine bk hK trivial λGJ=>?_
        refine Dn (rs:=[1,5]) Ay Az ?_;refine BU rfl (λK hK=>?_) (BU rfl (λK hK=>?_) Dp)
        .have kk:=ZI _ (AV _).drew;go_simp;clear kk;refine bk hK trivial λhS2=>?_
         refine tr 5 λK hK=>?_
         go_simp;refine SK.mono ?_;rintro e w6 ⟨v,rfl,hM⟩;have HM:=I hM;clear hM;refine bk hK trivial λGy=>?_
         refine HT v w6 ?_;exact HM
        .go_simp;refine SK.mono ?_;rintro e w6 ⟨v,rfl,hM⟩;have HM:=I hM;clear hM;refine bk hK trivial λGy=>?_
         refine tr 1 λK hK=>?_
         have kk:=cI HM.blk 0;go_simp;clear kk;refine bk hK trivial λhS5=>?_
         refine HT v w6 ?_;exact HM
      .intro v w6 hM;have HM:=I hM;clear hM
       as_aux_lemma=>
        refine tr 6 λK hK=>?_
        refine LV rfl (.tmp 41) (.tmp 45) 30 rfl (rb+1) 60 i0 (.agg #[(),(),(),(),(),(),()]) 7 56 Tryz.underlying30 V8 HZ0 HZ1 HZ2 rfl AQ (AR Al evs.length cl) evs.length (evs.flatMap SZ) rfl HM.row _ v EV.length (EV.flatMap SZ) rfl HM.new (NL _) AQ (by have:=HM.out.len;have:=HM.vg;have:=oo.out;omega) HM.lt ?_;intro uj w5 hown5 hg5 hb5 IL;obtain⟨Al',cl',rfl,_,_⟩:=Af hown5;have hbb:=(hg5.block rb HM.lt (λe=>by have:=(CX HM.out.row rb e.symm).1;omega)).trans HM.blk;have k0:V w5 rb 0 (AR Al evs.length cl):=AL hbb 0;have f0:w5.frozen? (aD rb 0)=false:=FD hbb 0;have HR5:=I (HM.push HL hown5 hg5 hb5 IL);clear hown5 hg5 hb5 IL hbb;refine bk hK trivial λhS6=>?_
        refine tq 7 hS6 ?_;refine tr 8 λK hK=>?_
        go_simp;refine bk hK trivial λrv=>?_
        refine CN Ay ?_ _
        try simp only[Act.put,DH,DI,DG,Ei,Ef,Ee]
        clear k0 f0
        go_wp2
        go_roundw
        case rel=>exact⟨j+1,HJ,by have:=HJ.out;have:=HMN.out;first|rfl|exact Ev j J,I ⟨_,Ci.vf HSJ HEJ Ks HR5⟩⟩
        case measure=>first|exact FO j mn HJ|exact Gj j mn HJ (by have:=HMN.out;omega)
     .have hje:j=mn:=J;subst hje;have hnl:¬((j:tyI)<j):=J;have wN:=I si.out;clear si
      go_wp2
      go_roundw
      case rel=>as_aux_lemma=>exact⟨i+1,by have:=Ea.out;have:=UT.out;omega,by have:=Ea.out;have:=HR.ok.k;first|rfl|exact Ev i J,I ⟨_,Ci.O9 Pw rS yQ oQ Ea wN⟩⟩
      case measure=>as_aux_lemma=>have:=Ea.out;have:=UT.out;have:=HR.ok.k;first|exact FO i pn J|exact Gj i pn J J
  .as_aux_lemma=>
   have hie:i=sc.picks.length:=by have:=UT.out;omega
   have hnl:¬((i:tyI)<pn):=by have:=UT.out;omega
   subst hie;have HPG:=I (HT.fit.prog);have HEL:=I (show(B7 Z.M sc.picks sc.picks.length (Cv sc.AH)).2.length<=100000000 from by have h1:=HT.len;have h2:=yO sc.picks.length (A9 _);omega);have HF:=I HT.fin;obtain⟨Al,cl,rfl,_,_⟩:=Af HT.row;clear HT hi yO oQ HR0 HD V8 HZ0 HZ1 HZ2;obtain⟨S1,hS1⟩:=gX ((B7 Z.M sc.picks sc.picks.length (Cv sc.AH)).1);obtain⟨evs,QK⟩:=gX ((B7 Z.M sc.picks sc.picks.length (Cv sc.AH)).2);rw[hS1,QK]at HF;rw[QK]at HEL;rw[hS1]at HPG;have Pw:=I hS1;have Ks:=I QK;clear hS1 QK;have k1:=cI HF.blk 1;have f1:=fI HF.blk 1;obtain⟨-,c1,-,-⟩:=QJ _ (HB1.go KI);rw[<-HZN]at c1;generalize hpc:sc.picks.length=pc at hnl|-;clear hpc;go_upto_region 16 with fail;clear c1 hnl;go_wp2_with fail;refine HF.now.mono ?_;rintro e wx ⟨rfl,rfl⟩;have bC:=I (HF.set 1 S1.now);clear HF;go_upto_region 17 with fail;clear k1 f1;generalize hWa:wx.setCell (aD rb 1) S1.now=Wa at bC|-;clear hWa;have k2:=AL bC.blk 2;simp only[DH,DG,DI,Iv,Is,I6]at k2;have jE:=I (bC.AAs HL.z);go_wp2_with fail;refine jE.mono ?_;rintro e w3 ⟨⟨A2,n2,c2,rfl⟩,hu3⟩;have Yr:=I (bC.grow hu3);clear hu3 bC jE k2;have k2:=AL Yr.blk 2;have f2:=fI Yr.blk 2;simp only[DH,DG,DI,Iv,Is,I6]at k2;have nH:=I (Yr.set 2 (AR A2 n2 c2));clear Yr;go_upto_region 18 with fail;clear k2 f2;generalize hWb:w3.setCell (aD rb 2) (AR A2 n2 c2)=Wb at nH|-;clear hWb;have HG2:=I (nH.vP HL HPG);go_wp2_with fail;refine HG2.mono ?_;rintro e w4 ⟨⟨A3,n3,c3,rfl⟩,ML⟩;have rU:=I (nH.grow ML);clear ML nH HG2;have k3:=AL rU.blk 3;have f3:=fI rU.blk 3;simp only[DH,DG,DI,Iv,Is,I6]at k3;have wh:=I (rU.set 3 (AR A3 n3 c3));clear rU;go_upto_region 19 with fail;clear k3 f3;generalize hWc:w4.setCell (aD rb 3) (AR A3 n3 c3)=Wc at wh|-;clear hWc;have HG3:=I (wh.AAR HL.z);go_wp2_with fail;refine HG3.mono ?_;rintro e w5 ⟨⟨A4,n4,c4,rfl⟩,OK⟩;have xO:=I (wh.grow OK);clear OK wh HG3;have k4:=AL xO.blk 4;have f4:=fI xO.blk 4;simp only[DH,DG,DI,Iv,Is,I6]at k4;have zh:=I (xO.set 4 (AR A4 n4 c4));clear xO;go_upto_region 20 with fail;clear k4 f4;generalize hWd:w5.setCell (aD rb 4) (AR A4 n4 c4)=Wd' at zh|-;clear hWd;have KK:=zh.blk;simp only[DH,DG,DI]at KK;have o8:=I (zh.up sh.1 sh.2);have hrc:=(o8.block _ (gE HRZ).1).trans HRZ;have HRC:=I hrc;generalize AHB:Ws.heap.size=rc at hrc HRC HSS|-;clear AHB;have y0:=cI KK 0;have y1:=cI KK 1;have y2:=cI KK 2;have y3:=cI KK 3;have y4:=cI KK 4;have z0:=cI hrc 0;have z1:=cI hrc 1;have z2:=cI hrc 2;have z3:=cI hrc 3;have z4:=cI hrc 4;have g0:=fI hrc 0;have g1:=fI hrc 1;have g2:=fI hrc 2;have g3:=fI hrc 3;have g4:=fI hrc 4;clear KK hrc;have oS:=I (AT (AT (AT (AT (AT HRC 0 (AR Al evs.length cl)) 1 S1.now) 2 (AR A2 n2 c2)) 3 (AR A3 n3 c3)) 4 (AR A4 n4 c4));have PP:=I (show w.heap.size<=rc/\rc<W0.heap.size from by have:=HSS.out;omega);have ZD:=I (show Up w Wd' from HB1.w.trans o8);have ZI:=I (show W0.heap.size<=rb from by have h1:=sh.1.size;have h2:=zh.WJ;omega);go_wp2_with fail;refine Gz (v:= .tuple #[.agg #[AR Al evs.length cl,S1.now,AR A2 n2 c2,AR A3 n3 c3,AR A4 n4 c4],()]) ?_ rfl ?_
   .exact GO (p:=2) (u:=3) rfl _ _ rc 32 _ _ _ rfl oS Tryz.underlying32 rfl Ay
   unfold QX;rw[Pw,Ks];refine⟨Al,cl,A2,n2,c2,A3,n3,c3,A4,n4,c4,rb+1,rfl,?_,?_,?_,HEL⟩
   .refine AS zh.row λk hk=>?_
    have hk1:=(CX zh.row k hk).1;have hk2:k≠rc:=by have:=PP.out;have:=ZI.out;omega
    repeat(refine(BF _ ⟨rc,_,none⟩ _ k hk2).trans ?_)
    rfl
   .have:=PP.out;have:=ZI.out;omega
   .repeat(refine C5 (p:=aD rc _) ?_ PP.1 _)
    exact ZD
def CF (left:tyI)(p:BL):Int:=if p.halt=true then 0 else Jg (AZ p.times 255) left
def RL (n:tyN)(left:tyI)(p:BL):BL:=⟨Di p.thread ((n:tyI)-1),CF left p,p.halt⟩
def JO (left:tyI)(p:BL):Bool:=decide (CF left p=0)&& !p.halt
def O9 (n:tyN)(s:Int×List BL)(p:BL):Int×List BL:=if JO s.1 p=true then s else(s.1-CF s.1 p,s.2++[RL n s.1 p])
def Cf (n:tyN)(l:List BL)(k:tyN):Int×List BL:=(l.take k).foldl (O9 n) (4000,[])
def FI (n:tyN)(l:List BL):List BL:=(Cf n l 300).2
theorem Nr(n:tyN)(l:List BL)(h:k<l.length):Cf n l (k+1)=O9 n (Cf n l k) (l.getD k Bd):=by
 unfold Cf;rw[mW h,cC];show O9 n _ l[k]=_;rw[show l.getD k Bd=l[k] by rw[gD,gG h];rfl]
theorem Xz(v:tyI):0<=AZ v 255/\AZ v 255<=255:=O0 v 255 AQ
theorem N3(left:tyI)(p:BL)(h:0<=left):0<=CF left p/\CF left p<=255/\CF left p<=left:=by
 have:=Xz p.times;unfold CF Jg;split
 .omega
 .split<;>omega
theorem aP(a b:List BL):B3 (a++b)=B3 a+B3 b:=by
 induction a with
 |nil=>simp[B3]
 |cons p a ih=>show p.times+B3 (a++b)=p.times+B3 a+B3 b;rw[ih];omega
structure qW (n:tyN)(s:Int×List BL)(k:tyN):Prop where
 left:0<=s.1/\s.1<=4000
 sum:s.1+B3 s.2=4000
 len:s.2.length<=k
 fine:∀p,p∈s.2->DT n p
theorem bp(x:tyI)(hn:1<=n)(h8:n<=8):0<=Di x ((n:tyI)-1)/\Di x ((n:tyI)-1)<=(n:tyI)-1:=R9 x _ J
theorem Mv{n:tyN}(hn:1<=n)(h8:n<=8)(l:List BL):∀k,k<=l.length->qW n (Cf n l k) k
 |0,_=>by
  unfold Cf;rw[kY];exact⟨⟨show(0:tyI)<=4000 by decide,show(4000:tyI)<=4000 by decide⟩,show(4000:tyI)+0=4000 by decide,A9 _,λp hp=>by cases hp⟩
 |k+1,hk=>by
  have H:=Mv hn h8 l k J;rw[Nr n l hk];generalize hs:Cf n l k=s at H|-;obtain⟨p,hp⟩:=gX (l.getD k Bd);rw[hp];have h1:=N3 s.1 p H.left.1;have h0:=H.left;unfold O9;split
  .exact⟨H.left,H.sum,UI H.len,H.fine⟩
  .rename_i hsk;refine⟨by show 0<=s.1-_/\s.1-_<=4000;omega,?_,by simp;exact H.len,λq hq=>?_⟩
   .show s.1-_+B3 (s.2++[_])=4000;rw[aP];have:=H.sum;have e:B3 [RL n s.1 p]=CF s.1 p:=by show CF s.1 p+0=_;omega
    rw[e];omega
   .rcases Cs.1 hq with hq|hq
    .exact H.fine q hq
    .rw[Bq]at hq;subst hq;refine⟨bp _ hn h8,?_⟩;show p.halt=true/\CF s.1 p=0\/p.halt=false/\_;cases hh:p.halt with
     |true=>left;exact⟨rfl,by unfold CF;rw[AK hh]⟩
     |false=>
      right
      have:¬CF s.1 p=0:=λe=>hsk (by unfold JO;rw[e,hh];rfl)
      exact⟨rfl,show 1<=CF s.1 p by omega,h1.2.1⟩
theorem Pe(n:tyN)(l:List BL):Cf n l 300=Cf n l (min 300 l.length):=by
 unfold Cf;rcases Nat.le_total 300 l.length with h|h
 .rw[Ye h]
 .rw[Nat.min_eq_right h,Ni h,IR]
theorem gn(hn:1<=n)(h8:n<=8)(l:List BL):(FI n l).length<=300/\B3 (FI n l)<=4000/\∀i,i<(FI n l).length->DT n ((FI n l).getD i Bd):=by
 have H:=Mv hn h8 l (min 300 l.length) (Nat.min_le_right _ _);rw[<-Pe]at H;refine⟨DB H.len (Nat.min_le_left _ _),by have:=H.sum;have:=H.left;show B3 (Cf n l 300).2<=4000;omega,λi hi=>H.fine _ ?_⟩;show(FI n l).getD i Bd∈_;rw[gD,gG hi];exact KD hi
theorem Zk(n top:tyI)(w:tyW):Calls Tryz.prog 35 #[n,top] w λe w'=>e=BA (O (AZ n top))/\w'=w:=by
 have HW1:=I (show∀W,Calls Tryz.prog 63 #[top,(),O 1099511627776] W λe w'=>e=BA (O (BC top 0 1099511627776))/\W=w' from λW=>Mw top 0 1099511627776 W);have HW2:=I (show∀W,Calls Tryz.prog 63 #[n,(),O (BC top 0 1099511627776)] W λe w'=>e=BA (O (AZ n top))/\W=w' from λW=>Mw n 0 (BC top 0 1099511627776) W);generalize AZ n top=r at*;generalize BC top 0 1099511627776=T at*;go_enter Tryz.func35,Tryz.ntmps35;go_wp2_with fail;refine(HW1 _).mono ?_;rintro e w1 ⟨rfl,rfl⟩;go_wp2_with fail;refine(HW2 _).mono ?_;rintro e w2 ⟨rfl,rfl⟩
 go_wp2
 go_ret;exact⟨rfl,rfl⟩
theorem lF:(Tryz.prog.info? 68).map (λi=>(i.zero,i.size,i.bytes))=some (some (.agg #[(),(),false]),3,24):=Ay
def YL (p:BL):List Value:=[.int .i64 p.thread,.int .i64 p.times,.bool p.halt]
def FX (w:tyW)(q:tyN)(v:tyV)(l:List BL):Prop:=w.ownsRow q 68 3 v l.length (l.flatMap YL)
theorem FX.up{w':tyW}{q:tyN}{lv:tyV}{l:List BL}(h:FX w q lv l)(u:Up w w'):FX w' q lv l:=AS h λk e=>u.block k (CX h k e).2
theorem FX.at'{q:tyN}{lv:tyV}{l:List BL}(h:FX w q lv l):∃A c,lv=AR A l.length c/\Fg w A l:=by
 obtain⟨A,c,rfl,_,_⟩:=Af h;refine⟨A,c,rfl,λi hi=>?_⟩;obtain⟨b,cap,e,_,hc⟩:=D1 (f:=YL) Bd h (λ_=>rfl) hi;cases e
 have h0:=hc 0 AQ;have h1:=hc 1 AQ;have h2:=hc 2 AQ;rw[Dw]at h0 h1 h2;exact⟨b,0,rfl,by rw[Dw];exact h0,by rw[Dw];exact h1,by rw[Dw];exact h2⟩
theorem XM(n:tyN)(l:List BL)(h:k<l.length)(left:tyI)(out:List BL)(hs:Cf n l k=(left,out))(p:BL)(hp:l.getD k Bd=p):
  Cf n l (k+1)=if JO left p=true then(left,out)else(left-CF left p,out++[RL n left p]):=by
 rw[Nr n l h,hs,hp];rfl
theorem iG(l:List BL)(A:tyA)(c n:tyN)(w:tyW)(hn:1<=n/\n<=8)(hr:Fg w A l):
  Calls Tryz.prog 12 #[AR A l.length c,n] w λe w'=> ∃A' c',e=BA (AR A' (FI n l).length c')/\Fg w' A' (FI n l)/\Up w w':=by
 have HR:=I hr;have HN:=I hn;have HW:=I (λ(x:tyI) (W:tyW)=>UC x ((n:tyI)-1) W);have HC:=I (λ(x:tyI) (W:tyW)=>Zk x 255 W);have yM:=I (λx=>bp x hn.1 hn.2);have Vm:=I Xz;have HF:=I (λ(k:tyN) (h:k<l.length)=>XM n l h);have V6:=I (λk h=>Mv hn.1 hn.2 l k h);obtain⟨i0,hi',hz0,hz1,hz2⟩:=info_parts lF;have V8:=I hi';have HZ0:=I hz0;have HZ1:=I hz1;have HZ2:=I hz2;have hsub:wrap64 ((n:tyI)-1)=(n:tyI)-1:=IntWalk.wrap64_in _ J;have yT:=I (Pe n l);obtain⟨m,hm⟩:=gX l.length;have HM:=I hm;rw[hm]at HF V6 yT|-;clear hi' hz0 hz1 hz2 hr hn hm;go_enter Tryz.func12,Tryz.ntmps12;go_wp2_with fail
 go_loopw[5,6,7] (λv lf iv wr=> ∃k:Nat,(k<=m/\k<=300)/\iv=O k/\lf=O (Cf n l k).1/\Hid (FX wr w.heap.size v (Cf n l k).2)/\Hid (Up w wr)) (λ_ _ iv _=>m-(intOf iv).toNat)
 case atStart=>exact⟨0,⟨J,J⟩,rfl,rfl,I (C3 _ _ _ _),I (AV _)⟩
 case round=>
  obtain⟨k,⟨hk,hk0⟩,rfl,hlf,HO,HU⟩:=hrel;obtain⟨left,out,hs⟩:∃a b,Cf n l k=(a,b):=⟨_,_,rfl⟩;rw[hs]at hlf HO;dsimp only at hlf HO;subst hlf;by_cases hlt2:k<m/\k<300
  .obtain⟨hlt,hlt3⟩:=hlt2;obtain⟨b,off,rfl,p0,p1,p2⟩:=(HR.up HU) k (by rw[HM];exact hlt);have HFK:=I (HF k hlt);have hle:=(V6 k (BP hlt)).left;have hl4:=(V6 k (BP hlt)).sum;have hln:=(V6 k (BP hlt)).len;rw[hs]at hle hln hl4;dsimp only at hle hln hl4;have zi:=I (HFK left out hs);rcases yP:l.getD k Bd with⟨pt,pm,ph⟩
   have yQ:=I yP;rw[yP]at p0 p1 p2;dsimp only at p0 p1 p2;have hki:(k:tyI)<m:=J;have hk3:(k:tyI)<300:=J;have hk9:(0:tyI)<=k:=J;have HWX:=I (λW=>HW pt W);have zX:=I (λW=>HC pm W);have QI:=yM pt;have hci:=Vm pm;have Sa:=I (λ(W:tyW) (u:Up wr W)=>show V W b (off+k*3) pt/\V W b (off+k*3+1) pm/\V W b (off+k*3+2) ph from⟨(u.cell (AJ p0)).trans p0,(u.cell (AJ p0)).trans p1,(u.cell (AJ p0)).trans p2⟩);obtain⟨M,hM⟩:=gX (Jg (AZ pm 255) left);have HMI:=I hM;generalize hwv:Di pt ((n:tyI)-1)=wv at*;generalize hcv:AZ pm 255=cv at*;have HWV:=I (And.intro hwv hcv);have HST:=I (And.intro hs (And.intro hle (And.intro hl4 hln)));clear yP hs hwv hcv hl4 hln;go_upto_region 6 with fail
   go_cut[8] (λv8 wx=> ∃zb:Nat,v8=pT zb/\Hid (Up wr wx/\wr.heap.size<=zb/\BR wx zb #[wv,O M,ph] 68))
   case first=>
    clear QI hci hle HF V6 HFK zi yT HM;have hsub2:IntKind.i64.wrap ((n:tyI)-1)=(n:tyI)-1:=IntWalk.i64_in _ (by have:=HN.out;omega);have hmn:min cv left=M:=by rw[<-hM];unfold Jg;omega
    have hbl:=AJ p0;have hS:=Sa _ (AV wr).drew;clear p0 p1 p2 hlt hlt3 hk hk0;refine Br (S:=λW=>V W b (off+k*3) pt/\V W b (off+k*3+1) pm/\V W b (off+k*3+2) ph) Ay hS (λhS0=>?_);refine tq 0 hS0 ?_;refine tq 1 hS0 ?_;refine tq 2 hS0 ?_;refine tq 3 hS0 ?_;refine tq 4 hS0 ?_;refine tq 5 hS0 ?_;refine tq 6 hS0 ?_;refine tq 8 hS0 ?_;refine tq 9 hS0 ?_;refine tq 10 hS0 ?_;refine tq 11 hS0 ?_;refine tq 12 hS0 ?_;refine tq 14 hS0 ?_;refine tq 16 hS0 ?_;refine tq 17 hS0 ?_;refine tq 18 hS0 ?_;refine tq 19 hS0 ?_;refine tq 20 hS0 ?_;clear hS0;refine aS (F:=λ(zb:tyN) (W6:tyW)=>Up wr W6/\wr.heap.size<=zb/\BR W6 zb #[(),(),false] 68) (G:=?G) (λHT=>?_) ?_;rotate_left
    .refine Dn (rs:=[7,22]) SU Az ?_;refine BU rfl (λK hK=>?_) (BU rfl (λK hK=>?_) Dp)
     .go_simp;refine(HWX _).mono ?_;rintro e w1 ⟨rfl,rfl⟩;refine bk hK (Sa _ (AV wr).drew) λGy=>?_
      refine Dn (rs:=[13,22]) SU Az ?_;refine BU rfl (λK hK=>?_) (BU rfl (λK hK=>?_) Dp)
      .go_simp;refine(zX _).mono ?_;rintro e w2 ⟨rfl,rfl⟩;refine bk hK (Sa _ (AV wr).drew) λhS5=>?_
       refine tq 15 hS5 ?_;refine tq 21 hS5 ?_;refine tr 22 λK hK=>?_
       go_simp;obtain⟨W6,PU⟩:=gX ((wr.alloc (Y #[(),(),false] 68)).drew);have ME:=I (show Up wr W6 from by rw[<-PU];exact((AV wr).alloc _).drew);have hb6:BR W6 wr #[(),(),false] 68:=by rw[<-PU];exact Ah wr _
       obtain⟨zb,hzb⟩:=gX wr.heap.size;rw[PU];rw[hzb]at hb6|-;have Je:=I hb6;have rx:=I hzb;clear PU hzb hb6;refine bk hK (Sa _ ME) λGJ=>?_
       exact HT zb W6 ⟨ME,by have:=rx.out;omega,Je⟩
      .go_simp;obtain⟨W6,PU⟩:=gX ((wr.alloc (Y #[(),(),false] 68)).drew);have ME:=I (show Up wr W6 from by rw[<-PU];exact((AV wr).alloc _).drew);have hb6:BR W6 wr #[(),(),false] 68:=by rw[<-PU];exact Ah wr _
       obtain⟨zb,hzb⟩:=gX wr.heap.size;rw[PU];rw[hzb]at hb6|-;have Je:=I hb6;have rx:=I hzb;clear PU hzb hb6;refine bk hK (Sa _ ME) λGJ=>?_
       refine tr 13 λK hK=>?_
       go_simp;refine(zX _).mono ?_;rintro e w2 ⟨rfl,rfl⟩;refine bk hK (Sa _ ME) λhS5=>?_
       refine tq 15 hS5 ?_;refine tq 21 hS5 ?_;exact HT zb w2 ⟨ME,by have:=rx.out;omega,Je⟩
     .go_simp;obtain⟨W6,PU⟩:=gX ((wr.alloc (Y #[(),(),false] 68)).drew);have ME:=I (show Up wr W6 from by rw[<-PU];exact((AV wr).alloc _).drew);have hb6:BR W6 wr #[(),(),false] 68:=by rw[<-PU];exact Ah wr _
      obtain⟨zb,hzb⟩:=gX wr.heap.size;rw[PU];rw[hzb]at hb6|-;have Je:=I hb6;have rx:=I hzb;clear PU hzb hb6;refine bk hK (Sa _ ME) λGJ=>?_
      refine tr 7 λK hK=>?_
      go_simp;refine(HWX _).mono ?_;rintro e w1 ⟨rfl,rfl⟩;refine bk hK (Sa _ ME) λGy=>?_
      refine tr 13 λK hK=>?_
      go_simp;refine(zX _).mono ?_;rintro e w2 ⟨rfl,rfl⟩;refine bk hK (Sa _ ME) λhS5=>?_
      refine tq 15 hS5 ?_;refine tq 21 hS5 ?_;exact HT zb w2 ⟨ME,by have:=rx.out;omega,Je⟩
    .intro zb W6 hF;refine tr 23 λK hK=>?_
     have PP:=I hF.2.1;have hb6:=hF.2.2;have q0:=cI hb6 0;have q1:=cI hb6 1;have q2:=cI hb6 2;have f0:=fI hb6 0;have f1:=fI hb6 1;have f2:=fI hb6 2;have oS:=I (AT (AT (AT hb6 0 wv) 1 (O M)) 2 ph);have ZD:=I (show Up wr _ from C5 (p:=aD zb 2) (C5 (p:=aD zb 1) (C5 (p:=aD zb 0) hF.1 hF.2.1 wv) hF.2.1 (O M)) hF.2.1 ph);clear hb6 hF;go_simp;refine bk hK (Sa _ ZD) λhS9=>?_
     refine CN Ay ?_ _
     try simp only[Act.put,DH,DI,DG,Ei,Ef,Ee]
     go_wp2
     go_meet;exact⟨zb,rfl,I ⟨ZD,PP,oS⟩⟩
   case rest=>
    obtain⟨zb,rfl,HX⟩:=hcut;have yU:=I (zi _ yQ);have HKK:=I (And.intro hlt hlt3);have hk1:wrap64 ((k:tyI)+1)=(k:tyI)+1:=IntWalk.wrap64_in _ J;have HOC:=I (AS HO λq e=>HX.1.block q (CX HO q e).2)
    have jV:=I (show 0<=left/\left<=4000/\0<=M/\M<=left from by
     have h1:=N3 left ⟨pt,pm,false⟩ hle.1;have h2:CF left ⟨pt,pm,false⟩=M:=by show Jg (AZ pm 255) left=M;rw[HWV.2];exact HMI
     omega)
    clear p0 p1 p2 QI hci HWX zX hM HFK zi hle;cases ph with
    |true=>
     have sX:=I (show CF left ⟨pt,pm,true⟩=0 from rfl);have HB2:=I (AT HX.2.2 1 ());have jZ:=I (show Up w (wc.setCell (aD zb 1) ())from C5 (p:=aD zb 1) (HU.trans HX.1) (by have:=HU.out.size;have:=HX.2.1;show w.heap.size<=zb;omega) _);have jK:Hid ((wc.setCell (aD zb 1) ()).ownsRow w.heap.size 68 3 u5 out.length (out.flatMap YL)):=I (AS HOC λq e=>BF wc ⟨zb,1,none⟩ _ q (λe2=>by have:=(CX HO.out q e).2;have:=HX.2.1;have e2:q=zb:=e2;omega));have hb:=HX.2.2;have q1:=cI hb 1;have q2:=cI hb 2;have f1:=fI hb 1;clear hb;go_upto_region 9 with fail;clear q1 q2 f1;generalize hwd:wc.setCell (aD zb 1) ()=wd at HB2 jZ jK|-;clear hwd;have hb:=HB2.out;have q0:=AL hb 0;have q1:=AL hb 1;have q2:=AL hb 2;simp only[DH,DG,DI,Iv,Is,I6]at q0 q1 q2;clear hb
     have QE:=I (show Cf n l (k+1)=(left-0,out++[⟨wv,0,true⟩])from by
      rw[yU,AI (by unfold JO;rw[sX];simp)];unfold RL
      rw[sX,HWV.1])
     have KJ:wrap64 left=left:=IntWalk.wrap64_in _ (by have:=jV.out;omega);obtain⟨Ao,co,rfl,_,_⟩:=Af HOC;have HLN:=I (show out.length+1<=maxLen/\(out.length+1)*24<=140737488355328 from by have:=HST.out.2.2.2;have:=HKK.2;unfold maxLen;omega);go_wp2_with(at_builtin;refine wpList_append_lies _ rfl (.tmp 56) (.tmp 58) 24 rfl w.heap.size 68 i0 (.agg #[(),(),false]) 3 24 Tryz.underlying24 V8 HZ0 HZ1 HZ2 rfl AQ _ out.length (out.flatMap YL) rfl (EB jK ((AV _).alloc _)) ⟨wd.heap.size,0,none⟩ 1 1 [wv,(),true] rfl rfl (CQ wd [wv,(),true] 68) (by intro u hu;simp at hu;rcases hu with rfl|rfl|rfl<;>rfl) AQ HLN.1 HLN.2 (by have:=jZ.out.size;simp;omega) _ rfl ?_)
     intro g1 cap w1 hown1 hgrow hat hlt1
     have Jd:=I (show FX w1 w.heap.size (BG g1 0 (out.length+1) cap) (out++[⟨wv,0,true⟩])from by
      unfold FX;rw[Gx,Y8]
      exact hown1)
     have Cm:=I (show Up w w1 from(Up.alloc jZ _).grown hgrow (by have:=jZ.out.size;simp;omega) (DS jK));clear hown1 hgrow hat hlt1
     go_wp2
     go_roundw
     case rel=>exact⟨k+1,⟨HKK.1,HKK.2⟩,by first|rfl|exact Ev k (by have:=HKK.out;omega),by first|(rw[QE];done)|(rw[QE];show _=Value.int .i64 (left-0);rw[Int.sub_zero]),I (by rw[QE];exact Jd),Cm⟩
     case measure=>first|exact FO k m HKK.1|exact Gj k m HKK.1 (by have:=HKK.out;omega)
    |false=>
     have sX:=I (show CF left ⟨pt,pm,false⟩=M from by show Jg (AZ pm 255) left=M;rw[HWV.2];exact HMI);have hb:=HX.2.2;have q0:=cI hb 0;have q1:=cI hb 1;have q2:=cI hb 2;clear hb;by_cases hM0:M=0
     .subst hM0;have QE:=I (show Cf n l (k+1)=(left,out)from by rw[yU,AK (by unfold JO;rw[sX];rfl)])
      go_wp2
      go_roundw
      case rel=>exact⟨k+1,⟨HKK.1,HKK.2⟩,by first|rfl|exact Ev k (by have:=HKK.out;omega),by rw[QE],I (by rw[QE];exact HOC),I (HU.trans HX.1)⟩
      case measure=>first|exact FO k m HKK.1|exact Gj k m HKK.1 (by have:=HKK.out;omega)
     .have hMb:(M==0)=false:=by simpa using hM0
      have jZ:=I (HU.trans HX.1);have jK:=I HOC.out;obtain⟨wd,hwd⟩:=gX wc;subst hwd;have HMZ:=I hM0
      have QE:=I (show Cf n l (k+1)=(left-M,out++[⟨wv,M,false⟩])from by
       rw[yU,AI (by unfold JO;rw[sX];simp[HMZ.out])];unfold RL
       rw[sX,HWV.1])
      have KJ:wrap64 (left-M)=left-M:=IntWalk.wrap64_in _ (by have:=jV.out;omega);obtain⟨Ao,co,rfl,_,_⟩:=Af HOC;have HLN:=I (show out.length+1<=maxLen/\(out.length+1)*24<=140737488355328 from by have:=HST.out.2.2.2;have:=HKK.2;unfold maxLen;omega);go_wp2_with(at_builtin;refine wpList_append_lies _ rfl (.tmp 56) (.tmp 58) 24 rfl w.heap.size 68 i0 (.agg #[(),(),false]) 3 24 Tryz.underlying24 V8 HZ0 HZ1 HZ2 rfl AQ _ out.length (out.flatMap YL) rfl (EB jK ((AV _).alloc _)) ⟨wc.heap.size,0,none⟩ 1 1 [wv,O M,false] rfl rfl (CQ wc [wv,O M,false] 68) (by intro u hu;simp at hu;rcases hu with rfl|rfl|rfl<;>rfl) AQ HLN.1 HLN.2 (by have:=jZ.out.size;simp;omega) _ rfl ?_)
      intro g1 cap w1 hown1 hgrow hat hlt1
      have Jd:=I (show FX w1 w.heap.size (BG g1 0 (out.length+1) cap) (out++[⟨wv,M,false⟩])from by
       unfold FX;rw[Gx,Y8]
       exact hown1)
      have Cm:=I (show Up w w1 from(Up.alloc jZ _).grown hgrow (by have:=jZ.out.size;simp;omega) (DS jK));clear hown1 hgrow hat hlt1
      go_wp2
      go_roundw
      case rel=>exact⟨k+1,⟨HKK.1,HKK.2⟩,by first|rfl|exact Ev k (by have:=HKK.out;omega),by first|(rw[QE];done)|(rw[QE];show _=Value.int .i64 (left-0);rw[Int.sub_zero]),I (by rw[QE];exact Jd),Cm⟩
      case measure=>first|exact FO k m HKK.1|exact Gj k m HKK.1 (by have:=HKK.out;omega)
  .have HE:=I (show Cf n l k=Cf n l 300 from by
    rw[yT,show k=min 300 m by omega])
   have MJ:Hid (FX wr w.heap.size u5 (FI n l)):=I (by rw[hs]at HE;unfold FI;rw[<-HE];exact HO);obtain⟨A',c',rfl,hpk⟩:=MJ.at';have SK:=I hpk;clear hpk HO MJ;rcases CR k m with hlt|hge
   .have hk9:¬((k:tyI)<300):=J;have rR:(k:tyI)<m:=J;clear hlt hlt2 hk hk0
    go_wp2
    go_ret;exact⟨A',⟨c',rfl⟩,SK,HU⟩
   .have rR:¬((k:tyI)<m):=J;clear hge hlt2 hk hk0
    go_wp2
    go_ret;exact⟨A',⟨c',rfl⟩,SK,HU⟩
def FN (l:tyL)(top:tyI):List Int:=l.map (Di · top)
theorem gJ{l:tyL}(top:tyI)(hk:k<l.length):FN (l.take (k+1)) top=FN (l.take k) top++[Di (l.getD k 0) top]:=by
 unfold FN;rw[mW hk,Gu,getD_lt hk];rfl
theorem gC(l:tyL)(A:tyA)(c:tyN)(top:tyI)(w:tyW)(hr:Row w A l.length (Bl l)):
  Calls Tryz.prog 33 #[AR A l.length c,top] w λe w'=>
   ∃A' c',e=BA (AR A' (FN (l.take 3000) top).length c')/\Row w' A' (FN (l.take 3000) top).length (Bl (FN (l.take 3000) top))/\(FN (l.take 3000) top).length<=c'/\(A'=none->c'=0)/\c'<=9223372036854775807/\(∀b off,A'=some ⟨b,off,none⟩->0<(FN (l.take 3000) top).length->w.heap.size<=b)/\Up w w':=by
 have HR:=I hr;have HW:=I (λ(n:tyI) (W:tyW)=>UC n top W);obtain⟨i0,hi,hz0,hz1,hz2⟩:=info_parts QS;have HI:=I hi;have HZ0:=I hz0;have HZ1:=I hz1;have HZ2:=I hz2;generalize hn:l.length=n at HR|-;have HN:=I hn;clear hn hi hz0 hz1 hz2 hr;go_enter Tryz.func33,Tryz.ntmps33;go_wp2_with fail
 go_loopw[5,6] (λv t wr=> ∃k:Nat,(k<=n/\k<=3000)/\t=O k/\Hid (wr.ownsRow w.heap.size 3 1 v k (Aj (FN (l.take k) top)))/\Hid (Up w wr)) (λ_ t _=>n-(intOf t).toNat)
 case atStart=>exact⟨0,⟨J,J⟩,rfl,I (YN _ _ _ _),I (AV _)⟩
 case round=>
  obtain⟨k,⟨hk,hk0⟩,rfl,HO,HU⟩:=hrel;by_cases hlt2:k<n/\k<3000
  .obtain⟨hlt,hlt3⟩:=hlt2;obtain⟨b,off,rfl,hc⟩:=HR k hlt;have hc:=(HU.cell (p:=aD b (off+k)) (AJ hc)).trans hc;unfold Bl at hc;have HT:=I (gJ (l:=l) (k:=k) top (by rw[HN];exact hlt));generalize l.getD k 0=x at*;have hk3:((k:tyI)<3000)=True:=by simp;omega
   have hkw:wrap64 ((k:tyI)+1)=(k:tyI)+1:=IntWalk.wrap64_in _ ⟨J,J⟩;have Ys:=I hlt3;obtain⟨A1,c1,hv,_,_⟩:=Af HO;subst hv;have HSJ:=I (show k+1<=maxLen/\(k+1)*8<=140737488355328 by have:=Ys.out;unfold maxLen;omega);have HWX:=I (λW=>HW x W);generalize Di x top=y at*;go_wp2_with(first|(go_at_call 34;refine(HWX _).mono ?_;rintro e w1 ⟨rfl,rfl⟩)|(at_builtin;refine wpList_append_lies _ rfl (.tmp 17) (.tmp 24) 25 rfl w.heap.size 3 i0 () 1 8 Tryz.underlying25 HI HZ0 HZ1 HZ2 rfl AQ _ k (Aj (FN (l.take k) top)) rfl (EB HO ((AV wr).alloc _)) ⟨wr.heap.size,0,none⟩ 1 1 [y] rfl rfl (CQ wr [y] 3) (by intro u hu;simp at hu;subst hu;rfl) AQ HSJ.1 HSJ.2 (by have:=HU.out.size;simp;omega) _ rfl ?_))
   intro g1 cap w1 hown1 hgrow hat hlt1
   have Jd:=I (show w1.ownsRow w.heap.size 3 1 (BG g1 0 (k+1) cap) (k+1) (Aj (FN (l.take (k+1)) top)) by
    rw[HT];have:Aj (FN (l.take k) top++[y])=Aj (FN (l.take k) top)++[.int .i64 y]:=by unfold Aj;simp
    rw[this]
    exact hown1)
   have Cm:=I (show Up w w1 from(Up.alloc HU (Y #[y] 3)).grown hgrow (by have:=HU.out.size;simp;omega) (DS HO));clear hown1 hgrow hat hlt1 hk3 hkw
   go_wp2
   go_roundw
   case rel=>exact⟨k+1,⟨J,J⟩,by go_num,Jd,Cm⟩
   case measure=>simp[intOf];omega
  .have HE:=I (show l.take k=l.take 3000 from by
    rcases CR k n with h|h
    .have:k=3000:=J;rw[this]
    .rw[Ni (by rw[HN];exact h),Ni (by rw[HN];omega)])
   have HK:=I (show k=(FN (l.take 3000) top).length from by
    rw[<-HE];unfold FN;rw[Ca,Ie,HN]
    omega)
   obtain⟨A1,c1,rfl,h1,h2⟩:=Af HO
   obtain⟨A2,c2,hA,hrow,_⟩:=Lq (f:=Bl (FN (l.take 3000) top)) HO (λj hj=>by
    rw[HE]
    exact Er (by rw[<-HK];exact hj))
   simp only[MI]at hA;obtain⟨rfl,_,rfl⟩:=hA;have rP:=I hrow
   have ADF:=I (show A1=none->c1=0 from λhA=>by
    rcases HO.2 with⟨hv,_⟩|⟨g,cap,cur,hv,hb,_⟩
    .simp only[MI]at hv;exact hv.2.2
    .simp only[MI]at hv
     rw[hv.1]at hA;cases hA)
   have PP:=I (show∀b off,A1=some ⟨b,off,none⟩->0<k->w.heap.size<=b from λb off hA hk=>by
    subst hA;rcases HO.2 with⟨hv,_⟩|⟨g,cap,cur,hv,hb,_⟩
    .cases hv
    .simp only[MI,Dt,Addr.mk.injEq]at hv;obtain⟨⟨rfl,-⟩,-⟩:=hv
     exact hb)
   have H1:=I (And.intro h1 h2);have HKK:=I (show k<=n/\k<=3000 from⟨hk,hk0⟩);clear hrow h1 h2;rcases CR k n with hlt|hge
   .have hk9:¬((k:tyI)<3000):=J;have rR:(k:tyI)<n:=J;clear hlt hlt2 hk hk0
    go_wp2
    go_ret;rw[<-HK];exact⟨A1,c1,rfl,rP,H1.1,ADF,by have:=H1.out.2;omega,PP,HU⟩
   .have rR:¬((k:tyI)<n):=J;clear hge hlt2 hk hk0
    go_wp2
    go_ret;rw[<-HK];exact⟨A1,c1,rfl,rP,H1.1,ADF,by have:=H1.out.2;omega,PP,HU⟩
def Ka (AW:tyI)(n:tyN)(room:tyI):GU:=⟨⟨1,AW,1,room,0,0,0,0⟩,⟨AW,n,1,0,0,room⟩,⟨0,0,0,0,0,0,0⟩,0+G3 AW n,0+ER AW⟩
def Rj (AW:tyI)(n:tyN)(room:tyI)(W:tyW)(v:tyV):Prop:= ∃q cap,v=BG q 0 1 cap/\q<W.heap.size/\(1<=cap/\cap<=9223372036854775807)/\Mm W q [Ka AW n room]
theorem Rj.up{AW:tyI}{n:tyN}{room:tyI}{W W':tyW}{v:tyV}(h:Rj AW n room W v)(u:Up W W'):Rj AW n room W' v:=by
 obtain⟨q,cap,e,hq,hc,ho⟩:=h;exact⟨q,cap,e,B5 hq u.size,hc,ho.up (u.block q hq)⟩
section
variable {AW:tyI}{n:tyN}{room:tyI}
theorem ga(h:Mi AW n 0 room):0<=ER AW/\ER AW<=1:=by
 obtain rfl:=h.AW;show(0:tyI)<=0/\(0:tyI)<=1;omega
theorem pQ(h:Mi AW n 0 room)(W:tyW):Calls Tryz.prog 122 #[.agg #[AW,n,O 1,(),(),room]] W λe w'=>e=BA true/\Up W w':=by
 have hn:=h.n;obtain rfl:=h.AW;exact fC n 1 0 0 room W J h.room rfl J J
theorem jz(h:Mi AW n 0 room)(W:tyW):Calls Tryz.prog 123 #[.agg #[AW,n,O 1,(),(),room]] W λe w'=>e=BA (O (G3 AW n))/\Up W w':=by
 have hn:=h.n;obtain rfl:=h.AW;exact Zj n 1 0 0 room W J
theorem Tx(h:Mi AW n 0 room)(W:tyW):Calls Tryz.prog 107 #[.agg #[AW,n,O 1,(),(),room]] W λe w'=>e=BA (O (ER AW))/\Up W w':=by
 have hn:=h.n;obtain rfl:=h.AW;exact Xn n 1 0 0 room W J
theorem UA(h:Mi AW n 0 room)(W:tyW):Calls Tryz.prog 104 #[.agg #[AW,n,O 1,(),(),room]] W λe w'=>(∃v,e=BA v/\BK w' W.heap.size v (Bc AW n room))/\Up W w':=by
 have hn:=h.n;obtain rfl:=h.AW;exact YR n 1 0 0 room W J
theorem qk(h:Mi AW n 0 room):∀i,i<(Bc AW n room).length->0<=((Bc AW n room).getD i Fo).many/\((Bc AW n room).getD i Fo).many<=1000:=by
 have hn:=h.n;intro i hi
 match i,hi with
 |0,_=>show(0:tyI)<=n/\(n:tyI)<=1000;omega
theorem vT(h:Mi AW n 0 room)(b off tc:tyN)(w:tyW)(ht:Hm w (some ⟨b,off,none⟩) [⟨1,AW,1,room,0,0,0,0⟩]):
  Calls Tryz.prog 49 #[BG b off 1 tc,n] w λe w'=> ∃ov,e=BA (.tuple #[ov,()])/\Rj AW n room w' ov/\Up w w':=by
 have hn:=h.n;have hl:=ga h;have hc:=Mx h;obtain⟨b2,Kn,e,⟨c0,c1,c2,c3⟩,c4,c5,c6,c7⟩:=ht 0 (I7 0);cases e
 rw[RR,LB]at c0 c1 c2 c3 c4 c5 c6 c7
 refine(Zp AW n 0 0 room 0 0 0 0 (0+G3 AW n) (0+ER AW) (ER AW+1) (Bc AW n room) b off tc w J c0 c1 c2 c3 c4 c5 c6 c7
  (λW=>qt AW n 0 0 room 0 0 0 0 _ _ W λW2=>WW AW n 0 0 room 0 0 0 0 (G3 AW n) (ER AW) W2 (pQ h) (jz h) (Tx h) J J)
  (λW=>Rc AW n 0 0 room 0 0 0 0 _ _ (Bc AW n room) W (UA h))
  (λW=>lE AW n 0 0 room 0 0 0 0 _ _ (ER AW) W J (Tx h))
  (by have:=(Na h).len;unfold Bc;simp) (qk h) J).mono ?_
 rintro e w' ⟨ov,rfl,hu,hr⟩;refine⟨ov,rfl,?_,hu⟩;rcases hr.2 with⟨rfl,e0⟩|⟨g,cap,cur,rfl,hg,hh,hcap,hmax,hsz2,hcells⟩
 .cases e0
 .refine⟨g,cap,rfl,(gE hh).1,⟨hcap,by unfold maxLen at hmax;omega⟩,⟨λk o ho=>?_⟩⟩
  match k,ho with
  |0,ho=>
   cases ho
   intro j v hv;rw[RR,Dw,Ar w' g j _ _ _ hh];have hlt:=(Be.1 hv).1;have h23:(JE (Ka AW n room)).length=23:=rfl;rw[h23]at hlt;have h3:(cur.toList.take (1*23))[j]?=some v:=by rw[hcells];exact hv
   rw[Us,AK J]at h3;simpa using h3
theorem U0(h:Mi AW n 0 room)(W:tyW)(ov:tyV)(ho:Rj AW n room W ov):Calls Tryz.prog 51 #[ov] W λe w'=> ∃sv,e=BA sv/\BK w' W.heap.size sv (Bc AW n room)/\Up W w':=by
 obtain⟨q,cap,rfl,hq,hc,UR⟩:=ho
 refine(Sl AW n 0 0 room 0 0 0 0 (0+G3 AW n) (0+ER AW) (Bc AW n room) q cap W (by unfold Bc;simp) (λj u hu=>?_)
  (λW=>Rc AW n 0 0 room 0 0 0 0 _ _ (Bc AW n room) W (UA h))).mono ?_
 .have:=UR.row 0 _ rfl j u hu;rw[RR,Dw]at this;exact this
 .rintro e w' ⟨sv,rfl,hs⟩;exact⟨sv,rfl,hs.row,hs.up⟩
end
section
variable {AW:tyI}{n:tyN}{room:tyI}{sc:MN}{a:V4}
theorem gK(H:fK AW n room sc)(hs:EF w sc a):∃b off,a.TA=some ⟨b,off,none⟩/\Hm w (some ⟨b,off,none⟩) [⟨1,AW,1,room,0,0,0,0⟩]:=by
 have ht:=hs.th;rw[H.th]at ht;obtain⟨b,off,e,_⟩:=ht 0 (I7 0);rw[e]at ht;exact⟨b,off,e,ht⟩
theorem li(H:fK AW n room sc)(w:tyW)(hs:EF w sc a):Calls Tryz.prog 24 #[.agg (gQ a sc)] w (km (Rj AW n room) w sc (Bc AW n room)):=by
 have hL:∀W,Up w W->Calls Tryz.prog 49 #[AR a.TA sc.things.length a.tc,sc.AH.length] W λe w'=> ∃ov,e=BA (.tuple #[ov,()])/\Rj AW n room w' ov/\Up W w':=λW u=>by
  obtain⟨b,off,e,ht⟩:=gK H (hs.up u);rw[e,H.th,H.len];exact vT H.lk b off a.tc W ht
 refine Xo (Rj AW n room) w hs (by rw[H.len];exact H.lk.n.2) H.ok.d (by unfold Bc;simp) (Rx H.lk) (λW W' v h u=>h.up u) (λW v h=>?_) (λW u=>dO W (hs.up u) H.ok λW' u'=>(hL W' (u.trans u')).mono ?_) hL (λW ov h=>U0 H.lk W ov h)
 .obtain⟨q,cap,e,hq,_⟩:=h;exact⟨q,1,cap,e,hq⟩
 .rintro e w' ⟨ov,rfl,_,hu⟩;exact⟨⟨ov,rfl⟩,hu⟩
end
section
variable {AW:tyI}{n:tyN}{room:tyI}{sc:MN}{a:V4}
theorem pU(AW:tyI)(n:tyN)(room:tyI)(draws:tyL)(t:tyN)(x1 x2:tyI):(ZA AW n room draws).P t (1,x1,x2)=IZ (I3 (ER AW) (Ir AW n room 0 0 t 6000)):=rfl
theorem pP(AW:tyI)(n:tyN)(room:tyI)(draws:tyL)(t:tyN)(x1 x2:tyI):(ZA AW n room draws).P t (2,x1,x2)=IZ (Iy (ER AW) (IX AW n 0 0 t)):=rfl
theorem AAk(H:fK AW n room sc)(B:tyN)(W1:tyW)(b g h c1:tyN)(ov dv:tyV)(Bj:List Value)(stat:Nat->Prop)(UR:Rj AW n room W1 ov)(hst:∀k,k<B->k<W1.heap.size->stat k)(hq:∃q n c,ov=BG q 0 n c/\q<B)(hB:B<=W1.heap.size):
  aY (yp B W1 b g h sc.AH.length c1 (Bc AW n room) ov dv Bj (ZA AW n room sc.draws)) sc.AH stat:=by
 intro t ht x0 x1 x2 hin ans loc ha hA hl W2 g' B' hbel hkeep hg hT ob on oc hov;have htn:t<sc.AH.length:=ht;rw[H.len]at htn;have hov:ov=AR ob on oc:=hov;obtain⟨q,cap,rfl,hqs,hcap,Vq⟩:=UR;obtain⟨q2,n2,c2,e2,hqB⟩:=hq;cases e2
 cases hov
 have hbq:hSM W2 W1 q:=hkeep q (hst q hqB hqs);have Y4:=Vq.up hbq;have hq2:q<W2.heap.size:=by have:=hT.1.gs;have:=hg;have:W1.heap.size<=g':=hg;omega
 obtain⟨hop,hx1⟩:=H.ops t _ hin;dsimp only at hop hx1;have ho:([Ka AW n room]:List GU)[0]?=some (Ka AW n room):=rfl;rcases hop with rfl|rfl
 .have hop:(ZA AW n room sc.draws).P t (1,x1,x2)=IZ (I3 (ER AW) (Ir AW n room 0 0 t 6000)):=pU _ _ _ _ _ _ _;show Calls Tryz.prog 84 _ W2 (AP encR g' B' W2 (((ZA AW n room sc.draws).P t (1,x1,x2)).BH ⟨ans,loc,[],[]⟩));rw[hop];refine WU [Ka AW n room] q 1 _ 1 x1 x2 t 0 (Ka AW n room) _ g' B' ⟨ans,loc,[],[]⟩ W2 hT AQ rfl (λargs W=>rfl) J AQ AQ hcap ho rfl Y4 hq2 λW' hu hT'=>?_
  have:=Zh (Ka AW n room) (Ir AW n room 0 0 t 6000) t g' B' ⟨ans,loc,[],[]⟩ W' hT' (λW'' hu' yc=>XJ H.lk t 1 0 6000 g' B' ⟨ans,loc,[],[]⟩ W'' htn (by show ans.length<6000;omega) hA (DV _) yc);rwa[show(Ka AW n room).loc=ER AW from Rz _]at this
 .have hop:(ZA AW n room sc.draws).P t (2,x1,x2)=IZ (Iy (ER AW) (IX AW n 0 0 t)):=pP _ _ _ _ _ _ _;show Calls Tryz.prog 84 _ W2 (AP encR g' B' W2 (((ZA AW n room sc.draws).P t (2,x1,x2)).BH ⟨ans,loc,[],[]⟩));rw[hop];refine WU [Ka AW n room] q 1 _ 2 x1 x2 t 0 (Ka AW n room) _ g' B' ⟨ans,loc,[],[]⟩ W2 hT AQ rfl (λargs W=>rfl) J AQ AQ hcap ho rfl Y4 hq2 λW' hu hT'=>?_
  have:=ae (Ka AW n room) (IX AW n 0 0 t) t g' B' ⟨ans,loc,[],[]⟩ W' hT' (λW'' hu' yc=>X5 H.lk t 1 0 g' B' ⟨ans,loc,[],[]⟩ W'' htn (DV _) yc);rwa[show(Ka AW n room).loc=ER AW from Rz _]at this
theorem AAg(H:fK AW n room sc):cW (Rj AW n room) (ZA AW n room sc.draws) sc (Bc AW n room) where
 ok:=H.ok
 fit:=Na H.lk
 many:=rfl
 fresh:=rfl
 draws:=rfl
 few:=pZ _
 pE:=iF
 ov:=λW v h=>by obtain⟨q,cap,e,_⟩:=h;exact⟨q,1,cap,e⟩
 do':=λB W1 b g h c1 ov dv Bj stat h1 h2 h3 h4=>AAk H B W1 b g h c1 ov dv Bj stat h1 h2 h3 h4
theorem us(H:fK AW n room sc)(w:tyW)(hs:EF w sc a):Calls Tryz.prog 9 #[.agg (gQ a sc)] w (QX (ZA AW n room sc.draws) sc w):=
 Xq (Rj AW n room) w hs (AAg H) λW u=>li H W (hs.up u)
end
def CW:MN:=⟨[⟨1,2,1,1,0,0,0,0⟩],[[(2,0,0),(1,0,0)]],[⟨0,3,false⟩],[]⟩
def I1:WD×List D6:=B7 (ZA 2 1 1 []) CW.picks CW.picks.length (Cv CW.AH)
theorem eZ:I1.1.now=3:=Ay
theorem TU:I1.2.map (λe=>(e.kind,e.err))=[(1,0),(2,9),(1,0),(3,0),(3,0),(3,0),(2,0)]:=Ay
theorem WT:fK 2 1 1 CW where
 ok:=
  {n:=AQ
   t:=AQ
   k:=AQ
   d:=AQ
   pl:=λi hi=>by
    match i,hi with
    |0,_=>
     refine⟨AQ,λj hj=>?_⟩
     match j,hj with
     |0,_=>exact⟨AQ,AQ,AQ⟩
     |1,_=>exact⟨AQ,AQ,AQ⟩
   pk:=λi hi=>by
    match i,hi with
    |0,_=>exact⟨AQ,.inr ⟨rfl,AQ,AQ⟩⟩
   dr:=λi hi=>(by cases hi)
   th:=λi hi=>by
    match i,hi with
    |0,_=>unfold Hv;decide
   st:=by decide}
 len:=rfl
 th:=rfl
 pos:=λi hi=>by
  match i,hi with
  |0,_=>decide
 ops:=λt c hc=>by
  match t,hc with
  |0,hc=>
   rcases BJ.1 hc with rfl|hc
   .exact⟨.inr rfl,rfl⟩
   .rw[Bq]at hc;subst hc;exact⟨.inl rfl,rfl⟩
  |t+1,hc=>cases hc
 lk:=⟨rfl,rfl,AQ,AQ,AQ⟩
theorem gv(w:tyW)(a:V4)(hs:EF w CW a):Calls Tryz.prog 9 #[.agg #[AR a.TA 1 a.tc,AR a.PA 1 a.pc,AR a.KA 1 a.kc,AR a.DA 0 a.dc]] w λe w'=> ∃b cap A2 n2 c2 A3 n3 c3 A4 n4 c4,e=BA (.tuple #[.agg #[BG b 0 7 cap,O 3,AR A2 n2 c2,AR A3 n3 c3,AR A4 n4 c4],()])/\
  (V w' b 12 (O 9)/\V w' b 43 (O 2))/\Up w w':=by
 refine(us WT w hs).mono ?_;rintro e w' ⟨A0,c0,A2,n2,c2,A3,n3,c3,A4,n4,c4,q,rfl,hrow,hq,hu,hlen0⟩
 have hlen:(B7 (ZA 2 1 1 CW.draws) CW.picks CW.picks.length (Cv CW.AH)).2.length=7:=by
  have:=DJ List.length TU;rw[Ca]at this;exact this
 have FU:(B7 (ZA 2 1 1 CW.draws) CW.picks CW.picks.length (Cv CW.AH)).1.now=3:=eZ
 have hget:∀i:Nat,i<7->((I1.2.getD i En).kind,(I1.2.getD i En).err)=([(1,0),(2,9),(1,0),(3,0),(3,0),(3,0),(2,0)]:List (Int×Int)).getD i (0,0):=λi hi=>by
  rw[<-TU,gD,gD,BY];have hl:i<I1.2.length:=by rw[show I1.2.length=7 from hlen];exact hi
  rw[gG hl];rfl
 obtain⟨b,cap,e1,hb,hc1⟩:=D1 (f:=SZ) En (show w'.ownsRow q 60 7 _ (B7 (ZA 2 1 1 CW.draws) CW.picks CW.picks.length (Cv CW.AH)).2.length _ from hrow) (λ_=>rfl) (show 1<_ by rw[hlen];decide);obtain⟨b2,cap2,e2,hb2,hc6⟩:=D1 (f:=SZ) En (show w'.ownsRow q 60 7 _ (B7 (ZA 2 1 1 CW.draws) CW.picks CW.picks.length (Cv CW.AH)).2.length _ from hrow) (λ_=>rfl) (show 6<_ by rw[hlen];decide);rw[e1]at e2;cases e2;have k1:=hc1 5 AQ;have k6:=hc6 1 AQ;have g1:=hget 1 AQ;have g6:=hget 6 AQ;refine⟨b,cap,A2,n2,c2,A3,n3,c3,A4,n4,c4,?_,⟨?_,?_⟩,hu⟩
 .rw[e1,hlen,FU];rfl
 .refine k1.trans ?_;show some (Value.int .i64 (I1.2.getD 1 En).err)=_;rw[show(I1.2.getD 1 En).err=9 from DJ Prod.snd g1]
 .refine k6.trans ?_;show some (Value.int .i64 (I1.2.getD 6 En).kind)=_;rw[show(I1.2.getD 6 En).kind=2 from DJ Prod.fst g6]
structure RowD where
 AW:Nat
 nn:Nat
 many:Nat
 picks:List BL
 draws:List Int
theorem cX{w':tyW}{A:tyA}{l:tyL}{cs:Array Value}{t:TypeId}(h:Row w A n (Bl l))(hb:BR w zb cs t)(hn:∀(j:tyN) (x:tyI),cs[j]?≠some (Value.int .i64 x))(hk:∀k,k<w.heap.size->k≠zb->hSM w' w k):Row w' A n (Bl l):=λi hi=>by
 obtain⟨b,off,e,hc⟩:=h i hi;refine⟨b,off,e,(CI (hk b (AJ hc) λe2=>?_)).trans hc⟩;rw[e2,AL hb]at hc;exact hn _ _ hc
theorem fX(j:tyN)(x:tyI):(#[sN,sN,sN,sN]:Array Value)[j]?≠some (Value.int .i64 x):=λh=>by
 have hm:=fd h;simp at hm
theorem iN(tb:tyN)(DA:tyA)(tn dc j:tyN)(x:tyI):(#[BG tb 0 1 1,sN,sN,AR DA tn dc]:Array Value)[j]?≠some (Value.int .i64 x):=λh=>by
 have hm:=fd h;simp at hm
structure WV (w W0 wr:tyW)(zb:tyN)(c0 c3 pv:tyV)(Bj:List Value)(P:List CD):Prop where
 up:Up w wr
 size:W0.heap.size<=wr.heap.size
 fr:∀k,k<W0.heap.size->k≠zb->hSM wr W0 k
 blk:BR wr zb #[c0,pv,sN,c3] 27
 row:wr.ownsRow W0.heap.size 66 1 pv Bj.length Bj
 pr:∀i,i<Bj.length->CM wr W0.heap.size (Bj.getD i JN) P/\∀k,(Bj.getD i JN).ownBlock=some k->pv.ownBlock≠some k
theorem WV.grow{W0 wr W:tyW}{c0 c3:tyV}(H:WV w W0 wr zb c0 c3 pv Bj P)(u:Up wr W):WV w W0 W zb c0 c3 pv Bj P:=
 ⟨H.up.trans u,DB H.size u.size,λk h1 h2=>(u.block k (B5 h1 H.size)).trans (H.fr k h1 h2),(u.block _ (gE H.blk).1).trans H.blk,AS H.row λk e=>u.block k (CX H.row k e).2,λi hi=>⟨(H.pr i hi).1.up u,(H.pr i hi).2⟩⟩
theorem WV.push{W0 wx wy w5:tyW}{c0 c3 p:tyV}{g5 cap5:tyN}(H:WV w W0 wx zb c0 c3 pv Bj P)(hw:w.heap.size<=zb)(hz:zb<W0.heap.size)(hu:Up wx wy)(hp:CM wy wx.heap.size p P)
  (hown:w5.ownsRow W0.heap.size 66 1 (BG g5 0 (Bj.length+1) cap5) (Bj.length+1) (Bj++[p]))
  (hg:(wy.alloc (Y #[p] 66)).grownBy w5 pv.ownBlock) (hat:pv.ownBlock=some g5\/g5=(wy.alloc (Y #[p] 66)).heap.size):
  WV w W0 (w5.setCell (aD zb 1) (BG g5 0 (Bj.length+1) cap5)) zb c0 c3 (BG g5 0 (Bj.length+1) cap5) (Bj++[p]) P:=by
 have hbl:=(gE H.blk).1;have hsz:wx.heap.size<=wy.heap.size:=hu.size;have hs1:(wy.alloc (Y #[p] 66)).heap.size=wy.heap.size+1:=Az;have hu1:Up wx (wy.alloc (Y #[p] 66)):=hu.trans ((AV wy).alloc _);have V0:∀k,pv.ownBlock=some k->W0.heap.size<=k/\k<wx.heap.size:=λk e=>H.row.lt k e
 have hs0:=H.size;have hk5:∀k,k<(wy.alloc (Y #[p] 66)).heap.size->pv.ownBlock≠some k->w5.heap[k]?=(wy.alloc (Y #[p] 66)).heap[k]?:=λk hk hne=>hg.block k hk (λe=>hne e.symm)
 have hold:∀k,k<W0.heap.size->hSM w5 wx k:=λk hk=>(hk5 k J (λe=>by have:=V0 k e;omega)).trans (hu1.block k J)
 have hset:∀k,k≠zb->hSM (w5.setCell (aD zb 1) (BG g5 0 (Bj.length+1) cap5)) w5 k:=λk hk=>BF w5 ⟨zb,1,none⟩ _ k hk
 have hs5:(wy.alloc (Y #[p] 66)).heap.size<=w5.heap.size:=hg.size;refine⟨?_,by simp;omega,λk h1 h2=>(hset k h2).trans ((hold k h1).trans (H.fr k h1 h2)),?_,?_,λi hi=>?_⟩
 .refine C5 (p:=aD zb 1) ?_ hw _;exact DL (H.up.trans hu1) (KX (B:=W0.heap.size) (grownBy_below hg J λk e=>(V0 k e).1) J)
 .exact AT ((hold zb hz).trans H.blk) 1 _
 .rw[Gx,IN];exact AS hown λk e=>hset k (λe2=>by have:=(hown.lt k e).1;omega)
 .rw[Gx,IN]at hi;rcases CR i Bj.length with hlt|hge
  .rw[LP _ _ _ hlt];obtain⟨h1,h2⟩:=H.pr i hlt;refine⟨AS h1 λk e=>?_,λk e e2=>?_⟩
   .have hkl:=h1.lt k e;exact(hset k J).trans ((hk5 k J (h2 k e)).trans (hu1.block k hkl.2))
   .have hkl:=h1.lt k e;have e3:g5=k:=by cases e2;rfl
    rcases hat with q|q
    .exact h2 k e (by rw[q,e3])
    .omega
  .have hie:i=Bj.length:=J;subst hie;rw[LC];refine⟨AS (Da hp H.size) λk e=>?_,λk e e2=>?_⟩
   .have hkl:=hp.lt k e;have:=hk5 k J (λe2=>by have:=V0 k e2;omega);exact(hset k J).trans (this.trans (((AV wy).alloc _).block k hkl.2))
   .have hkl:=hp.lt k e;have e3:g5=k:=by cases e2;rfl
    rcases hat with q|q
    .have:=V0 g5 q;omega
    .omega
theorem kJ{wr:tyW}{B:tyN}(hrow:wr.ownsRow B 66 1 pv Bj.length Bj)(hpr:∀i,i<Bj.length->CM wr B (Bj.getD i JN) P)(hn:Bj.length=n)(hP:0<P.length)(hP2:P.length<=1000000):∃A c,pv=AR A n c/\Lm wr A (List.replicate n P):=by
 obtain⟨A,c,rfl,_,_⟩:=Af hrow;refine⟨A,c,by rw[hn],λi hi=>?_⟩;rw[XE,<-hn]at hi;have h1:=hpr i hi;obtain⟨b,cap,e,hq,hlt,hcap,hat⟩:=h1.at' hP
 have hfl:∀l:List Value,l.flatMap (λv=>[v])=l:=λl=>by
  induction l with
  |nil=>rfl
  |cons a l ih=>rw[It,ih];rfl
 have hrow2:wr.ownsRow B 66 1 (AR A Bj.length c) Bj.length (Bj.flatMap (λv=>[v])):=by rw[hfl];exact hrow
 obtain⟨b2,cap2,e2,_,hc⟩:=D1 (f:=λv=>[v]) JN hrow2 (λ_=>rfl) hi;cases e2
 have h0:=hc 0 AQ
 have hd:(List.replicate n P).getD i []=P:=by
  rw[gD,AAZ,AK J];rfl
 obtain⟨A3,c3,e3,h3,h4⟩:=Af h1;rw[e]at e3;cases e3;refine⟨b2,0,_,cap,rfl,?_,by rw[hd];exact hat,by rw[hd];exact hcap,by rw[hd];exact hP2,h4,λe4=>by cases e4⟩;rw[hd,<-e];rw[dE,LB]at h0;exact h0
theorem WV.fin{w W0 wx wF:tyW}{tb rs dc d3:tyN}{TH:Hk}{DA:tyA}{dl:tyL}(H:WV w W0 wx zb (BG tb 0 1 1) (AR DA d3 dc) pv Bj P)(hrs:rs<W0.heap.size)(hrz:rs≠zb)(hrt:rs≠tb)(htz:tb≠zb)(htb:BR W0 tb (OM TH).toArray 46)
  (hz0:BR W0 zb #[BG tb 0 1 1,sN,sN,AR DA d3 dc] 27) (hr:BR W0 rs #[sN,sN,sN,sN] 27)
  (hdr:Row W0 DA d3 (Bl dl)) (hdl:dl.length=d3) (yV:d3<=dc/\(DA=none->dc=0)/\dc<=9223372036854775807) (hn:Bj.length=n) (hP:0<P.length) (hP2:P.length<=1000000) (hk:∀k,k≠rs->hSM wF wx k):
  ∃A c,pv=AR A n c/\EF wF ⟨[TH],List.replicate n P,[],dl⟩ ⟨some ⟨tb,0,none⟩,1,A,c,none,0,DA,dc⟩:=by
 obtain⟨A,c,e,hpg⟩:=kJ (AS H.row λk e=>hk k (by have:=(CX H.row k e).1;omega)) (λi hi=>AS (H.pr i hi).1 λk e=>hk k (by have:=((H.pr i hi).1.lt k e).1;omega)) hn hP hP2;have htl:tb<W0.heap.size:=(gE htb).1;have Y5:=(hk tb (Cz hrt)).trans ((H.fr tb htl htz).trans htb);have hrx:=(H.fr rs hrs hrz).trans hr;have hdx:Row wx DA d3 (Bl dl):=cX hdr hz0 (iN tb DA d3 dc) (λk h1 h2=>H.fr k h1 h2);have hdF:Row wF DA d3 (Bl dl):=cX hdx hrx fX (λk _ h2=>hk k h2);refine⟨A,c,e,⟨λi hi=>?_,hpg,λi hi=>by simp at hi,by rw[hdl];exact hdF,yV.2.1,by rw[hdl];exact yV.1,yV.2.2⟩⟩;have hi0:i=0:=by simp at hi;omega
 subst hi0;refine⟨tb,0,rfl,⟨?_,?_,?_,?_⟩,?_,?_,?_,?_⟩
 all_goals(first|exact AL Y5 0|exact AL Y5 1|exact AL Y5 2|exact AL Y5 3|exact AL Y5 4|exact AL Y5 5|exact AL Y5 6|exact AL Y5 7)
end
end Go.Proofs.YtpodgcpkccpnfaaGreat
