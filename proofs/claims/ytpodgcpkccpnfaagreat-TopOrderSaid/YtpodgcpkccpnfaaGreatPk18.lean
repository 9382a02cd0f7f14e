import Derived.Test.YtpodgcpkccpnfaaGreatPk17
set_option linter.unusedVariables false
set_option linter.unusedSimpArgs false
set_option maxRecDepth 20000
set_option maxHeartbeats 40000000
namespace Go.Proofs.YtpodgcpkccpnfaaGreat
variable{i x:Int}{l l':List Int}{L:List Item}{c k lo:Nat}
section
open Go.RowKit
theorem Mo(k b lo n wr rd tp v:tyI)(g B:tyN)(s:TS)(w:tyW)(h:AX w g B s)(hb0:0<=b)(hb1:b<=1000000)(hl0:0<=lo)(hl1:lo<=1000000):
  Calls Tryz.prog 260 #[pT g,.agg #[k,b,lo,n,wr,rd,tp],v] w (AP Mq g B w ((yk b lo v).BH s)):=by
 have x1:=(C0 (b+1) J J).1;have x2:=(C0 (b+2) J J).1;have y1:=(C0 (lo+1) J J).1;have y0:=(C0 lo J J).1;have x0:=(C0 b J J).1;obtain⟨W0,hW,HT,HU,-,o9⟩:=Cr h k b lo n wr rd tp;have Vk:=I (show∀w',TK g B W0 w'->V w' w 1 b/\V w' w 2 lo from λw' k2=>⟨(o9 w' k2).1.2.1,(o9 w' k2).1.2.2.1⟩);clear o9;have HW:=I hW;obtain⟨c1,c2⟩:=Vk W0 (TK.refl g B W0);obtain⟨R,hR⟩:=gX ((yk b lo v).BH s);rw[hR];unfold yk at hR;obtain⟨u,hu⟩:=gX (CT v);rw[hu]at hR;have HE:=I hR;unfold CT at hu;clear h hR hb0 hb1 hl0 hl1;by_cases hv:v=0
 all_goals
  first|rw[AK hv]at hu|rw[AI hv]at hu
  subst hu
  first|subst hv|have hv2:(v==0)=false:=by rw[Dy];exact hv
  go_enter Tryz.func260,Tryz.ntmps260;go_wp2_with fail
  try rw[HW]
  refine(EN HT HE).mono ?_;rintro e w1 ⟨x,rfl,rfl,E1⟩;rcases O6 E1 with⟨rfl,E2⟩|⟨hx,E2⟩
  .go_wp2_with fail
   go_end0
   exact AP.some E2.out.symm ⟨rfl,HT,HU⟩
  go_wp2_with fail;refine(Ho (k:=λ_=>_) HT E2.out).mono ?_;rintro e w2 (⟨s2,rfl,H2,K2,E3⟩|⟨_,s2,rfl,H2,K2,E3⟩)
  .go_wp2
   exact⟨rfl,AP.none E3.out ⟨rfl,H2,HU.trans K2.out⟩⟩
  obtain⟨d1,d2⟩:=Vk w2 K2.out;have Kq:=I (HU.trans K2.out);clear c1 c2 hx E1 E2 HE;unfold Mq;go_wp2_with fail;refine(Ff H2 E3.out).mono ?_;rintro e w3 ⟨rfl,s3,H3,K3,E4⟩;have xW:=I (K2.out.trans K3.out);obtain⟨c1,c2⟩:=Vk w3 xW.out;clear d1 d2 K2 K3 H2 E3 HT;go_wp2_with fail;refine(EN H3 E4.out).mono ?_;rintro e w3' ⟨x,rfl,rfl,E5⟩;go_wp2_with fail;refine(Eg H3 E5.out).mono ?_;rintro e w4 (⟨s4,rfl,H4,K4,E6⟩|⟨y,s4,rfl,H4,K4,E6⟩)
  .go_wp2
   exact⟨rfl,AP.none E6.out ⟨rfl,H4,HU.trans (xW.out.trans K4.out)⟩⟩
  have uU:=I (xW.out.trans K4.out);obtain⟨d1,d2⟩:=Vk w4 uU.out;clear c1 c2 xW K4 H3 E5 E4;unfold encI;rcases O6 E6 with⟨rfl,E7⟩|⟨hy,E7⟩
  rotate_left
  .go_wp2_with fail
   go_end0
   exact AP.some E7.out.symm ⟨rfl,H4,HU.trans uU.out⟩
  go_wp2_with fail;refine(Ho (k:=λ_=>_) H4 E7.out).mono ?_;rintro e w5 (⟨s5,rfl,H5,K5,E8⟩|⟨_,s5,rfl,H5,K5,E8⟩)
  .go_wp2
   exact⟨rfl,AP.none E8.out ⟨rfl,H5,HU.trans (uU.out.trans K5.out)⟩⟩
  have K45:=I (uU.out.trans K5.out);obtain⟨c1,c2⟩:=Vk w5 K45.out;clear d1 d2 K5 uU H4 E6 E7;unfold Mq;go_wp2_with fail;refine(Ff H5 E8.out).mono ?_;rintro e w6 ⟨rfl,s6,H6,K6,E9⟩;clear c1 c2;go_wp2_with fail
  go_end0
  exact AP.some E9.out.symm ⟨rfl,H6,HU.trans (K45.out.trans K6.out)⟩
theorem Ml(k b lo n wr rd tp:tyI)(g B:tyN)(s:TS)(w:tyW)(h:AX w g B s)(hb0:0<=b)(hb1:b<=1000000)(hl0:0<=lo)(hl1:lo<=1000000):
  Calls Tryz.prog 254 #[pT g,.agg #[k,b,lo,n,wr,rd,tp]] w (AP encI g B w ((qM b lo).BH s)):=by
 have x1:=(C0 (b+1) J J).1;have x2:=(C0 (b+2) J J).1;have y2:=(C0 (lo+2) J J).1;have y3:=(C0 (lo+3) J J).1;have x0:=(C0 b J J).1;have v0:=(C0 b J J).2;have v1:=(C0 (b+1) J J).2;have v2:=(C0 (b+2) J J).2;have u2:=(C0 (lo+2) J J).2;have u3:=(C0 (lo+3) J J).2;obtain⟨W0,hW,HT,HU,-,o9⟩:=Cr h k b lo n wr rd tp;have HS:=I (show∀w',TK g B W0 w'->V w' w 1 b/\V w' w 2 lo from λw' k2=>⟨(o9 w' k2).1.2.1,(o9 w' k2).1.2.2.1⟩);clear o9;have HW:=I hW;obtain⟨R,hR⟩:=gX ((qM b lo).BH s);rw[hR];unfold qM at hR;have HE:=I hR;clear h hR hb0 hb1 hl0 hl1;go_enter Tryz.func254,Tryz.ntmps254;go_wp2_with fail;have K0:=I (TK.refl g B W0);refine Ej 0 rfl (λAC hJ=>?_);go_wp2_with fail
 try rw[HW]
 have HD1:=I (HT.up (AV _).drew);have KD1:=I K0.out.drew;clear HT K0;refine Br (S:=λw'=>V w' w 1 b/\V w' w 2 lo) Ay (HS _ KD1.out) (λhH0=>?_);refine tq 0 hH0 ?_;refine tq 1 hH0 ?_;refine tq 2 hH0 ?_;refine tq 3 hH0 ?_;refine tq 5 hH0 ?_;refine tq 6 hH0 ?_;refine tq 7 hH0 ?_;refine tq 8 hH0 ?_;refine ry 4 (λK hK=>?_);go_simp
 try simp only[v0,v1,v2,u2,u3]
 refine(Eg HD1 HE).mono ?_;rintro e w2 (⟨s2,rfl,H2,J2,E2⟩|⟨x,s2,rfl,H2,J2,E2⟩)
 .dsimp only;clear hK K
  go_wp2
  exact⟨rfl,AP.none E2.out ⟨rfl,H2,HU.trans (KD1.out.trans J2.out)⟩⟩
 unfold encI;have K2:=I (KD1.out.trans J2.out);clear HD1 KD1 HE J2;have T10:=HS _ K2.out;refine bk hK T10 λAFx=>?_
 clear hH0;refine ry 9 (λK hK=>?_);go_simp
 try simp only[v0,v1,v2,u2,u3]
 refine(EN H2 E2.out).mono ?_;rintro e w3 ⟨y,rfl,rfl,E3⟩;clear E2;have T11:=HS _ K2.out;refine bk hK T11 λABx=>?_
 clear AFx;refine tq 10 ABx ?_;refine dz ?_
 try simp only[pS,Gi,Gg,GX]
 clear ABx;rcases O6 E3 with⟨rfl,E4⟩|⟨h4,E4⟩
 all_goals clear E3
 .obtain⟨c1,c2⟩:=HS _ K2.out;go_wp2_with fail;refine(EN H2 E4.out).mono ?_;rintro e w5 ⟨z,rfl,rfl,E5⟩;clear E4;go_wp2_with fail
  go_step3
  refine⟨rfl,hJ.out _ _ ?_⟩;go_wp2_with fail;rw[Exit.noGoto_ret];go_ret;exact AP.some E5.out.symm ⟨rfl,H2,HU.trans K2.out⟩
 obtain⟨c1,c2⟩:=HS _ K2.out;go_wp2_with fail;refine(Eg H2 E4.out).mono ?_;rintro e w6 (⟨s6,rfl,H6,J6,E6⟩|⟨x,s6,rfl,H6,J6,E6⟩)
 .go_wp2
  exact⟨rfl,AP.none E6.out ⟨rfl,H6,HU.trans (K2.out.trans J6.out)⟩⟩
 unfold encI;have K6:=I (K2.out.trans J6.out);clear H2 K2 E4 J6;clear c1 c2;go_wp2_with fail
 try rw[HW]
 have HD7:=I (H6.up (AV _).drew);have uV:=I K6.out.drew;clear H6 K6;refine Br (S:=λw'=>V w' w 1 b/\V w' w 2 lo) Ay (HS _ uV.out) (λhH0=>?_);refine tq 0 hH0 ?_;refine tq 1 hH0 ?_;refine tq 2 hH0 ?_;refine tq 3 hH0 ?_;refine tq 5 hH0 ?_;refine tq 6 hH0 ?_;refine tq 7 hH0 ?_;refine tq 8 hH0 ?_;refine ry 4 (λK hK=>?_);go_simp
 try simp only[v0,v1,v2,u2,u3]
 refine(Eg HD7 E6.out).mono ?_;rintro e w8 (⟨s8,rfl,H8,J8,E8⟩|⟨y,s8,rfl,H8,J8,E8⟩)
 .dsimp only;clear hK K
  go_wp2
  exact⟨rfl,AP.none E8.out ⟨rfl,H8,HU.trans (uV.out.trans J8.out)⟩⟩
 unfold encI;have K8:=I (uV.out.trans J8.out);clear HD7 uV E6 J8;have T70:=HS _ K8.out;refine bk hK T70 λAFy=>?_
 clear hH0;refine ry 9 (λK hK=>?_);go_simp
 try simp only[v0,v1,v2,u2,u3]
 refine(EN H8 E8.out).mono ?_;rintro e w9 ⟨z,rfl,rfl,E9⟩;clear E8;have T71:=HS _ K8.out;refine bk hK T71 λABy=>?_
 clear AFy;refine tq 10 ABy ?_;refine dz ?_
 try simp only[pS,Gi,Gg,GX]
 clear ABy;have uW:=I (show(Hs b lo y z (KT b lo x)).BH s8=R from E9.out);clear E9;unfold Hs at uW;rcases O6 uW with⟨rfl,xX⟩|⟨h11,xX⟩
 all_goals clear uW
 rotate_left;obtain⟨c1,c2⟩:=HS _ K8.out;go_wp2_with fail;refine(EN H8 xX.out).mono ?_;rintro e w12 ⟨u,rfl,rfl,pA⟩;clear xX;go_wp2_with fail;refine(Ho (k:=λ_=>_) H8 pA.out).mono ?_;rintro e w13 (⟨s13,rfl,H13,J13,zL⟩|⟨_,s13,rfl,H13,J13,zL⟩)
 .go_wp2
  exact⟨rfl,AP.none zL.out ⟨rfl,H13,HU.trans (K8.out.trans J13.out)⟩⟩
 unfold Mq;have K13:=I (K8.out.trans J13.out);clear H8 K8 pA J13;clear c1 c2;obtain⟨c1,c2⟩:=HS _ K13.out;go_wp2_with fail;refine(Ff H13 zL.out).mono ?_;rintro e w14 ⟨rfl,s14,H14,J14,E14⟩;have K14:=I (K13.out.trans J14.out);clear H13 K13 zL J14;clear c1 c2;have HZ:=H14;have KZ:=K14;have EZ:=E14;clear H14 K14 E14;rotate_left;have HZ:=H8;have KZ:=K8;have EZ:=xX;clear H8 K8 xX
 all_goals
  have E15:=I (show(KT b lo x).BH _=R from EZ.out);clear EZ;unfold KT at E15;go_wp2_with fail
  try rw[HW]
  have ABz:=I (HZ.up (AV _).drew);have sE:=I KZ.out.drew;clear HZ KZ;refine Br (S:=λw'=>V w' w 1 b/\V w' w 2 lo) Ay (HS _ sE.out) (λhH0=>?_);refine tq 0 hH0 ?_;refine tq 1 hH0 ?_;refine tq 2 hH0 ?_;refine tq 3 hH0 ?_;refine tq 4 hH0 ?_;refine tq 5 hH0 ?_;refine tq 6 hH0 ?_;refine tq 7 hH0 ?_;refine ry 8 (λK hK=>?_);go_simp
  try simp only[v0,v1,v2,u2,u3]
  refine(Eg ABz E15.out).mono ?_;rintro e w17 (⟨s17,rfl,H17,J17,E17⟩|⟨v,s17,rfl,H17,J17,E17⟩)
  .dsimp only;clear hK K
   go_wp2
   exact⟨rfl,AP.none E17.out ⟨rfl,H17,HU.trans (sE.out.trans J17.out)⟩⟩
  unfold encI;have K17:=I (sE.out.trans J17.out);clear ABz sE E15 J17;have AF3:=HS _ K17.out;refine bk hK AF3 λAB0=>?_
  clear hH0;refine ry 9 (λK hK=>?_);go_simp
  try simp only[v0,v1,v2,u2,u3]
  refine(Ff H17 E17.out).mono ?_;rintro e w18 ⟨rfl,s18,zM,J18,E18⟩;have K18:=I (K17.out.trans J18.out);clear H17 K17 E17 J18;have AF5:=HS _ K18.out;refine bk hK AF5 λAB1=>?_
  clear AB0;refine dz ?_
  try simp only[pS,Gi,Gg,GX]
  clear AB1;go_wp2_with fail
  try rw[HW]
  have AB2:=I (zM.up (AV _).drew);have sF:=I K18.out.drew;clear zM K18;refine Br (S:=λw'=>V w' w 1 b/\V w' w 2 lo) Ay (HS _ sF.out) (λhH0=>?_);refine tq 0 hH0 ?_;refine tq 1 hH0 ?_;refine tq 2 hH0 ?_;refine tq 3 hH0 ?_;refine tq 5 hH0 ?_;refine tq 6 hH0 ?_;refine tq 7 hH0 ?_;refine tq 8 hH0 ?_;refine ry 4 (λK hK=>?_);go_simp
  try simp only[v0,v1,v2,u2,u3]
  refine(Eg AB2 E18.out).mono ?_;rintro e w20 (⟨s20,rfl,nW,uX,uY⟩|⟨y2,s20,rfl,nW,uX,uY⟩)
  .dsimp only;clear hK K
   go_wp2
   exact⟨rfl,AP.none uY.out ⟨rfl,nW,HU.trans (sF.out.trans uX.out)⟩⟩
  unfold encI;have zO:=I (sF.out.trans uX.out);clear AB2 sF E18 uX;have AF6:=HS _ zO.out;refine bk hK AF6 λAB3=>?_
  clear hH0;refine ry 9 (λK hK=>?_);go_simp
  try simp only[v0,v1,v2,u2,u3]
  refine(EN nW uY.out).mono ?_;rintro e w21 ⟨z2,rfl,rfl,E21⟩;clear uY;have AF7:=HS _ zO.out;refine bk hK AF7 λuZ=>?_
  clear AB3;refine tq 10 uZ ?_;refine dz ?_
  try simp only[pS,Gi,Gg,GX]
  clear uZ;rcases O6 E21 with⟨rfl,E22⟩|⟨h22,E22⟩
  all_goals clear E21
  .obtain⟨c1,c2⟩:=HS _ zO.out;go_wp2_with fail;refine(EN nW E22.out).mono ?_;rintro e w23 ⟨z,rfl,rfl,E23⟩;clear E22;go_wp2_with fail
   go_step3
   refine⟨rfl,hJ.out _ _ ?_⟩;go_wp2_with fail;rw[Exit.noGoto_ret];go_ret;exact AP.some E23.out.symm ⟨rfl,nW,HU.trans zO.out⟩
  go_wp2_with fail
  try rw[HW]
  have AB5:=I (nW.up (AV _).drew);have sG:=I zO.out.drew;clear nW zO;refine Br (S:=λw'=>V w' w 1 b/\V w' w 2 lo) Ay (HS _ sG.out) (λhH0=>?_);refine tq 0 hH0 ?_;refine tq 1 hH0 ?_;refine tq 2 hH0 ?_;refine tq 3 hH0 ?_;refine tq 4 hH0 ?_;refine tq 5 hH0 ?_;refine tq 6 hH0 ?_;refine tq 7 hH0 ?_;refine ry 8 (λK hK=>?_);go_simp
  try simp only[v0,v1,v2,u2,u3]
  refine(Eg AB5 E22.out).mono ?_;rintro e w25 (⟨s25,rfl,H25,J25,E25⟩|⟨v2,s25,rfl,H25,J25,E25⟩)
  .dsimp only;clear hK K
   go_wp2
   exact⟨rfl,AP.none E25.out ⟨rfl,H25,HU.trans (sG.out.trans J25.out)⟩⟩
  unfold encI;have K25:=I (sG.out.trans J25.out);clear AB5 sG E22 J25;have AF8:=HS _ K25.out;refine bk hK AF8 λAB7=>?_
  clear hH0;refine ry 9 (λK hK=>?_);go_simp
  try simp only[v0,v1,v2,u2,u3]
  refine(Ff H25 E25.out).mono ?_;rintro e w26 ⟨rfl,s26,H26,J26,E26⟩;have xY:=I (K25.out.trans J26.out);clear H25 K25 E25 J26;have AF9:=HS _ xY.out;refine bk hK AF9 λAB8=>?_
  clear AB7;refine dz ?_
  try simp only[pS,Gi,Gg,GX]
  clear AB8;go_wp2_with fail
  go_step3
  refine⟨rfl,hJ.out _ _ ?_⟩;go_wp2_with fail;rw[Exit.noGoto_ret];go_ret;exact AP.some E26.out.symm ⟨rfl,H26,HU.trans xY.out⟩
structure WR where
 v:Int
 b:Nat
 e:Nat
structure RV where
 b:Nat
 e:Nat
 x:Int
def EI (ws:List WR):Nat->Int
 |0=>0
 |k+1=>(ws.getD k ⟨0,0,0⟩).v
def R0 (ws:List WR)(r:RV):Prop:= ∀k,k<=ws.length->(∀j w,j<k->ws[j]?=some w->w.e<r.b)->(∀j w,k<=j->ws[j]?=some w->r.e<w.b)->r.x=EI ws k
structure EH where
 vb:Nat
 ve:Nat
 rb:Nat
 re:Nat
 y:Int
 w:Option (Nat×Nat)
def EH.fin (t:EH):Nat:=match t.w with
 |none=>t.re
 |some p=>p.2
def ux (tw:List EH):Nat->Int
 |0=>0
 |k+1=>1-(tw.getD k ⟨0,0,0,0,0,none⟩).y
theorem XN{tw:List EH}{t:EH}(h:tw[k]?=some t):ux tw (k+1)=1-t.y:=by
 show 1-(tw.getD k _).y=_;rw[gD,h];rfl
structure qe (vs:List WR)(tw:List EH):Prop where
 put:∀(k:tyN) (t:EH),tw[k]?=some t->∃v,vs[k]?=some ⟨v,t.vb,t.ve⟩
 one:∀(k:tyN) (t:EH),tw[k]?=some t->t.vb<t.ve/\t.ve<t.rb/\t.rb<t.re/\t.re<=t.fin/\∀p q,t.w=some (p,q)->t.re<p/\p<q/\q=t.fin
 next:∀(j k:tyN) (s:EH) (w:WR),j<k->tw[j]?=some s->vs[k]?=some w->s.fin<w.b
 real:∀(k:tyN) (t:EH),tw[k]?=some t->t.w≠none->t.y=ux tw k
 sort:∀(j k:tyN) (s w:WR),j<k->vs[j]?=some s->vs[k]?=some w->s.e<w.b
 vlt:∀(k:tyN) (w:WR),vs[k]?=some w->w.b<w.e
def Jf (tw:List EH)(r:RV):Prop:= ∀n,n<=tw.length->(∀j t p q,j<n->tw[j]?=some t->t.w=some (p,q)->q<r.b)->(∀j t p q,n<=j->tw[j]?=some t->t.w=some (p,q)->r.e<p)->r.x=ux tw n
inductive FB:Type where
 |e1 (w1:RV)
 |e5 (w1 v2 w3:RV) (rw:Option (Nat×Nat)) (v4 w5:RV)
 |e7 (w1 v2 w3:RV) (rw:Option (Nat×Nat)) (v4 w5 v6:RV)
def RA (x:tyI):Option (Nat×Nat)->List WR
 |none=>[]
 |some p=>[⟨x,p.1,p.2⟩]
def FB.IE:FB->List WR
 | .e1 _=>[]
 | .e5 _ _ w3 rw _ _=>RA w3.x rw
 | .e7 _ _ w3 rw _ _ _=>RA w3.x rw
def FB.b:FB->Nat
 | .e1 w1=>w1.b
 | .e5 w1 _ _ _ _ _=>w1.b
 | .e7 w1 _ _ _ _ _ _=>w1.b
def FB.e:FB->Nat
 | .e1 w1=>w1.e
 | .e5 _ _ _ _ _ w5=>w5.e
 | .e7 _ _ _ _ _ _ v6=>v6.e
def FB.vr:FB->List RV
 | .e1 _=>[]
 | .e5 _ v2 _ _ v4 _=>[v2,v4]
 | .e7 _ v2 _ _ v4 _ v6=>[v2,v4,v6]
def FB.wr:FB->List RV
 | .e1 w1=>[w1]
 | .e5 w1 _ w3 _ _ w5=>[w1,w3,w5]
 | .e7 w1 _ w3 _ _ w5 _=>[w1,w3,w5]
def pV (r x:tyI)(lo hi:tyN):Option (Nat×Nat)->Prop
 |none=>x=r/\lo<hi
 |some p=>x≠r/\lo<p.1/\p.1<p.2/\p.2<hi
def Et:Nat->Int->List FB->Prop
 |_,_,[]=>True
 |lo,r,.e1 w1::es=>lo<w1.b/\w1.b<w1.e/\w1.x=r/\Et w1.e r es
 |lo,r,.e5 w1 v2 w3 rw v4 w5::es=>(lo<w1.b/\w1.b<w1.e/\w1.e<v2.b/\v2.b<v2.e/\v2.e<w3.b/\w3.b<w3.e)/\w1.x≠r/\pV r w3.x w3.e v4.b rw/\(v4.b<v4.e/\v4.e<w5.b/\w5.b<w5.e)/\w5.x=w3.x/\Et w5.e w3.x es
 |lo,r,.e7 w1 v2 w3 rw v4 w5 v6::es=>(lo<w1.b/\w1.b<w1.e/\w1.e<v2.b/\v2.b<v2.e/\v2.e<w3.b/\w3.b<w3.e)/\w1.x≠r/\pV r w3.x w3.e v4.b rw/\(v4.b<v4.e/\v4.e<w5.b/\w5.b<w5.e)/\w5.x≠w3.x/\(w5.e<v6.b/\v6.b<v6.e)/\Et v6.e w3.x es
def FB.res (last:tyI):FB->Int
 | .e1 _=>last
 | .e5 _ _ _ _ v4 _=>v4.x
 | .e7 _ v2 _ _ _ _ _=>v2.x
def FB.last (last:tyI):FB->Int
 | .e1 _=>last
 | .e5 _ _ _ _ v4 _=>v4.x
 | .e7 _ _ _ _ _ _ v6=>v6.x
theorem Et.Vb:∀{es:List FB} {lo:tyN} {r:tyI},Et lo r es->∀w,w∈es.flatMap FB.IE->lo<w.b
 |[],_,_,h,w,hw=>by cases hw
 | .e1 w1::es,lo,r,h,w,hw=>by
  obtain⟨h1,h2,h3,h4⟩:=h;have:=Et.Vb h4 w hw;omega
 | .e5 w1 v2 w3 rw v4 w5::es,lo,r,h,w,hw=>by
  obtain⟨h1,h2,h3,h4,h5,h6⟩:=h;rcases Cs.1 (show w∈RA w3.x rw++es.flatMap FB.IE from hw)with hw|hw
  .cases rw with
   |none=>cases hw
   |some p=>rw[show w=⟨w3.x,p.1,p.2⟩ by simpa[RA]using hw];have:=h3.2;dsimp only;omega
  .have:=Et.Vb h6 w hw;cases rw with
   |none=>have:=h3.2;omega
   |some p=>have:=h3.2;omega
 | .e7 w1 v2 w3 rw v4 w5 v6::es,lo,r,h,w,hw=>by
  obtain⟨h1,h2,h3,h4,h5,h5',h6⟩:=h;rcases Cs.1 (show w∈RA w3.x rw++es.flatMap FB.IE from hw)with hw|hw
  .cases rw with
   |none=>cases hw
   |some p=>rw[show w=⟨w3.x,p.1,p.2⟩ by simpa[RA]using hw];have:=h3.2;dsimp only;omega
  .have:=Et.Vb h6 w hw;cases rw with
   |none=>have:=h3.2;omega
   |some p=>have:=h3.2;omega
structure P8 (vs:List WR)(v:RV)(n:tyN):Prop where
 val:v.x=((n%2:tyN):tyI)
 le:n<=vs.length
 ahead:∀(k:tyN) (w:WR),vs[k]?=some w->k<n->w.b<v.e
 behind:∀(k:tyN) (w:WR),vs[k]?=some w->w.e<v.b->k<n
section
variable {vs:List WR}{tw:List EH}
theorem Ng(hT:qe vs tw){v s w1 w2:RV}{n m:tyN}(hv:P8 vs v m)(hs:P8 vs s n)(hlt:n<m)(h1:Jf tw w1)(h2:Jf tw w2)(a1:v.e<w1.b)(a2:w1.e<s.b)(b1:v.e<w2.b)(b2:w2.e<s.b):w1.x=w2.x:=by
 have hn:n<vs.length:=B5 hlt hv.le;obtain⟨w,hw⟩:∃w,vs[n]?=some w:=⟨vs[n],gG hn⟩;have c1:=hv.ahead n w hw hlt
 have c2:s.b<=w.e:=by
  rcases CR w.e s.b with h|h
  .exact absurd (hs.behind n w hw h) (EL _)
  .exact h
 have key:∀r:RV,Jf tw r->v.e<r.b->r.e<s.b->r.x=ux tw (min n tw.length):=λr hr g1 g2=>by
  refine hr _ (Nat.min_le_right _ _) (λj t p q hj ht hp=>?_) λj t p q hj ht hp=>?_
  .have:=hT.next j n t w J ht hw;have:=((hT.one j t ht).2.2.2.2 p q hp).2.2;omega
  .have hjl:=(Be.1 ht).1;obtain⟨x,hx⟩:=hT.put j t ht;have:=hT.one j t ht;have:=this.2.2.2.2 p q hp;rcases CR n j with hnj|hnj
   .have:=hT.sort n j w _ hnj hw hx;dsimp only at this;omega
   .have e:n=j:=J;subst e;rw[hw]at hx;cases hx;dsimp only at c2;omega
 rw[key w1 h1 a1 a2,key w2 h2 b1 b2]
theorem qK(hT:qe vs tw){IE:List WR}{sb:tyN}{r:tyI}{w:RV}(hR:∀(j:tyN) (t:EH),tw[j]?=some t->R0 IE ⟨t.rb,t.re,t.y⟩)(hc:c<=IE.length)(h1:∀j u,j<c->IE[j]?=some u->u.e<sb)(h2:∀j u,c<=j->IE[j]?=some u->w.e<u.b)(hr:EI IE c=r)
  (hw:Jf tw w) (hx:w.x=r) (hwlt:w.b<w.e)  {t:EH} (ht:tw[k]?=some t) (hf:t.fin<w.b):t.ve<sb:=by
 rcases CR t.ve sb with h|h
 .exact h
 exfalso
 have hy:∀(j:tyN) (u:EH),k<=j->tw[j]?=some u->u.re<=w.e->u.y=r:=λj u hj hu hle=>by
  rw[<-hr]
  have dg:sb<=u.ve:=by
   rcases CR k j with hkj|hkj
   .obtain⟨x,hx⟩:=hT.put j u hu;have:=hT.next k j t _ hkj ht hx;have:=hT.one k t ht;have:=hT.one j u hu;dsimp only at*;omega
   .have e:k=j:=J;subst e;rw[ht]at hu;cases hu;exact h
  have:=hT.one j u hu;exact hR j u hu c hc (λi z hi hz=>by have:=h1 i z hi hz;dsimp only;omega) λi z hi hz=>by have:=h2 i z hi hz;dsimp only;omega
 have hk:=(Be.1 ht).1;have hone:=hT.one k t ht
 have e1:w.x=ux tw (k+1):=by
  refine hw _ J (λj u p q hj hu hp=>?_) λj u p q hj hu hp=>?_
  .have hq:=((hT.one j u hu).2.2.2.2 p q hp).2.2;rcases CR j k with hjk|hjk
   .obtain⟨x,hx⟩:=hT.put k t ht;have:=hT.next j k u _ hjk hu hx;dsimp only at this;omega
   .have e:j=k:=J;subst e;rw[ht]at hu;cases hu;omega
  .rcases CR w.e p with h3|h3
   .exact h3
   exfalso;have hu1:=hT.one j u hu;have hp1:=hu1.2.2.2.2 p q hp;have y1:=hy j u J hu J;obtain⟨i,rfl⟩:∃i,j=i+1:=⟨j-1,J⟩;have hi:i<tw.length:=by have:=(Be.1 hu).1;omega
   have hz:tw[i]?=some tw[i]:=gG hi;obtain⟨x,hx⟩:=hT.put (i+1) u hu;have g1:=hT.next i (i+1) _ _ J hz hx;dsimp only at g1;have g2:=hT.one i _ hz;have y2:=hy i _ J hz J;have g3:=hT.real (i+1) u hu (by rw[hp];simp);rw[XN hz,y1,y2]at g3;omega
 rw[XN ht,hx,hy k t (A9 _) ht J]at e1;omega
def ba (vs:List WR)(tw:List EH):Nat->Int->List FB->List Nat->Prop
 |_,_,[],[]=>True
 |p,last,e::es,n::ns=>p<=n/\n<=vs.length/\e.res last=((n%2:tyN):tyI)/\(∀k w,vs[k]?=some w->k<n->w.b<e.e)/\(∀k t,tw[k]?=some t->t.fin<e.b->k<n)/\ba vs tw n (e.last last) es ns
 |_,_,_,_=>False
structure AAX (vs:List WR)(tw:List EH)(IE:List WR)(lo:tyN)(r last:tyI)(c:tyN)(nl np:tyN)(sb:tyN)(rest:List WR):Prop where
 ym:IE.drop c=rest
 gS:c<=IE.length
 val:last=((nl%2:tyN):tyI)
 nle:nl<=vs.length
 ahead:∀k w,vs[k]?=some w->k<nl->w.b<lo
 behind:∀k w,vs[k]?=some w->w.e<sb->k<nl
 wA:sb<=lo
 old:∀j w,j<c->IE[j]?=some w->w.e<sb
 bit:EI IE c=r
 le:np<=nl
 prev:np=0\/∃v:RV,P8 vs v np/\v.e<=lo/\((∃w:RV,Jf tw w/\v.e<w.b/\w.e<=lo/\w.x=r)\/∃w w':RV,Jf tw w/\Jf tw w'/\v.e<w.b/\w.e<=lo/\v.e<w'.b/\w'.e<=lo/\w.x≠w'.x)
 same:nl=0\/∃v:RV,P8 vs v nl/\v.e<=lo
theorem ax{IE:List WR}{w:WR}{rest:List WR}(h:IE.drop c=w::rest):EI IE (c+1)=w.v/\IE[c]?=some w/\IE.drop (c+1)=rest/\c+1<=IE.length:=by
 have h0:IE[c]?=some w:=by rw[<-List.head?_drop,h];rfl
 refine⟨?_,h0,?_,(Be.1 h0).1⟩
 .show(IE.getD c _).v=_;rw[gD,h0];rfl
 .rw[<-List.tail_drop,h];rfl
theorem k9{IE:List WR}{j:tyN}{w:WR}(hj:c<=j)(h:IE[j]?=some w):w∈IE.drop c:=by
 have:(IE.drop c)[j-c]?=some w:=by rw[List.getElem?_drop,show c+(j-c)=j by omega];exact h
 exact BI this
theorem X9{IE:List WR}{r:tyI}{hi sb:tyN}{rest:List WR}{rw':Option (Nat×Nat)}(hx:pV r x lo hi rw')(hd:IE.drop c=RA x rw'++rest)(hc:c<=IE.length)(hb:EI IE c=r)(ho:∀j w,j<c->IE[j]?=some w->w.e<sb)(hs:sb<=hi):
  ∃c',IE.drop c'=rest/\c'<=IE.length/\EI IE c'=x/\∀j w,j<c'->IE[j]?=some w->w.e<hi:=by
 cases rw' with
 |none=>exact⟨c,hd,hc,by rw[hb];exact hx.1.symm,λj w hj hw=>B5 (ho j w hj hw) hs⟩
 |some p=>
  obtain⟨g1,g2,g3,g4⟩:=ax (show IE.drop c=⟨x,p.1,p.2⟩::rest from hd);refine⟨c+1,g3,g4,g1,λj w hj hw=>?_⟩;rcases CR j c with h|h
  .exact B5 (ho j w h hw) hs
  .have e:j=c:=J;subst e;rw[g2]at hw;cases hw;exact hx.2.2.2
theorem QR(hT:qe vs tw){IE:List WR}(hR:∀(j:tyN) (t:EH),tw[j]?=some t->R0 IE ⟨t.rb,t.re,t.y⟩){pr:List WR}{idx:RV->Nat}:∀(es:List FB) {lo:tyN} {r last:tyI} {c nl np sb:tyN},Et lo r es->
  (∀E,E∈es->(∀v,v∈E.vr->P8 vs v (idx v))/\∀w,w∈E.wr->Jf tw w)->(∀E,E∈es->∀w,w∈pr->E.e<w.b)->
  AAX vs tw IE lo r last c nl np sb (es.flatMap FB.IE++pr)->∃ns,ba vs tw np last es ns
 |[],lo,r,last,c,nl,np,sb,hs,hX,hp,hI=>⟨[],trivial⟩
 | .e1 w1::es,lo,r,last,c,nl,np,sb,hs,hX,hp,hI=>by
  obtain⟨s1,s2,s3,s4⟩:=hs;have hw:=(hX _ (.head _)).2 w1 (.head _)
  have hall:∀w,w∈es.flatMap FB.IE++pr->w1.e<w.b:=λw hw=>by
   rcases Cs.1 hw with hw|hw
   .exact s4.Vb w hw
   .exact hp _ (.head _) w hw
  have hq:∀k t,tw[k]?=some t->t.fin<w1.b->k<nl:=λk t ht hf=>by
   have:=qK hT (w:=w1) (sb:=sb) hR hI.gS hI.old (λj u hj hu=>hall u (show u∈(FB.e1 w1::es).flatMap FB.IE++pr from by rw[<-hI.ym];exact k9 hj hu)) hI.bit hw s3 s2 ht hf;obtain⟨x,hx⟩:=hT.put k t ht;exact hI.behind k _ hx this
  obtain⟨ns,hn⟩:=QR hT hR es (lo:=w1.e) (r:=r) (last:=last) (c:=c) (nl:=nl) (np:=nl) (sb:=sb) s4 (λE hE=>hX E (.tail _ hE)) (λE hE=>hp E (.tail _ hE))
   {hI with
    ahead:=λk w h1 h2=>by have:=hI.ahead k w h1 h2;omega
    wA:=by have:=hI.wA;omega
    le:=A9 _
    prev:=hI.same.imp id λ⟨v,g1,g2⟩=>⟨v,g1,J,.inl ⟨w1,hw,J,A9 _,s3⟩⟩
    same:=hI.same.imp id λ⟨v,g1,g2⟩=>⟨v,g1,J⟩}
  exact⟨nl::ns,hI.le,hI.nle,hI.val,λk w h1 h2=>by have:=hI.ahead k w h1 h2;show w.b<w1.e;omega,hq,hn⟩
 | .e5 w1 v2 w3 rw' v4 w5::es,lo,r,last,c,nl,np,sb,hs,hX,hp,hI=>by
  obtain⟨s1,s2,s3,s4,s5,s6⟩:=hs;obtain⟨x1,x2⟩:=hX _ (.head _);have hw1:=x2 w1 (by simp[FB.wr]);have V7:=x2 w5 (by simp[FB.wr]);have hv4:=x1 v4 (by simp[FB.vr])
  have hlt:w3.e<v4.b:=by cases rw' with
   |none=>exact s3.2
   |some p=>have:=s3.2;omega
  have hle:np<=idx v4:=by
   rcases CR (idx v4) np with h|h
   .exfalso;rcases hI.prev with h0|⟨v,g1,g2,⟨w,g3,g4,g5,g6⟩|⟨w,w',g3,g4,g5,g6,g7,g8,g9⟩⟩
    .omega
    .exact s2 ((Ng hT g1 hv4 h g3 hw1 g4 J J J).symm.trans g6)
    .exact g9 (Ng hT g1 hv4 h g3 g4 g5 J g7 J)
   .exact h
  obtain⟨c',c1,c2,c3,c4⟩:=X9 (sb:=sb) s3 (by rw[hI.ym];exact Jt _ _ _) hI.gS hI.bit hI.old (by have:=hI.wA;omega)
  obtain⟨ns,hn⟩:=QR hT hR es (lo:=w5.e) (r:=w3.x) (last:=v4.x) (c:=c') (nl:=idx v4) (np:=idx v4) (sb:=v4.b) s6 (λE hE=>hX E (.tail _ hE)) (λE hE=>hp E (.tail _ hE))
   {ym:=c1
    gS:=c2
    val:=hv4.val
    nle:=hv4.le
    ahead:=λk w h1 h2=>by have:=hv4.ahead k w h1 h2;omega
    behind:=hv4.behind
    wA:=J
    old:=c4
    bit:=c3
    le:=A9 _
    prev:= .inr ⟨v4,hv4,J,.inl ⟨w5,V7,J,A9 _,s5⟩⟩
    same:= .inr ⟨v4,hv4,J⟩}
  refine⟨idx v4::ns,hle,hv4.le,hv4.val,λk w h1 h2=>by have:=hv4.ahead k w h1 h2;show w.b<w5.e;omega,λk t ht hf=>?_,hn⟩;obtain⟨x,hx⟩:=hT.put k t ht;have:=hT.one k t ht;have hf':t.fin<w1.b:=hf;exact hv4.behind k _ hx (by dsimp only;omega)
 | .e7 w1 v2 w3 rw' v4 w5 v6::es,lo,r,last,c,nl,np,sb,hs,hX,hp,hI=>by
  obtain⟨s1,s2,s3,s4,s5,s5',s6⟩:=hs;obtain⟨x1,x2⟩:=hX _ (.head _);have hw1:=x2 w1 (by simp[FB.wr]);have hw3:=x2 w3 (by simp[FB.wr]);have V7:=x2 w5 (by simp[FB.wr]);have hv2:=x1 v2 (by simp[FB.vr]);have hv6:=x1 v6 (by simp[FB.vr])
  have hlt:w3.e<v4.b:=by cases rw' with
   |none=>exact s3.2
   |some p=>have:=s3.2;omega
  have hle:np<=idx v2:=by
   rcases CR (idx v2) np with h|h
   .exfalso;rcases hI.prev with h0|⟨v,g1,g2,⟨w,g3,g4,g5,g6⟩|⟨w,w',g3,g4,g5,g6,g7,g8,g9⟩⟩
    .omega
    .exact s2 ((Ng hT g1 hv2 h g3 hw1 g4 J J J).symm.trans g6)
    .exact g9 (Ng hT g1 hv2 h g3 g4 g5 J g7 J)
   .exact h
  have hle2:idx v2<=idx v6:=by
   rcases CR (idx v6) (idx v2)with h|h
   .exact absurd (Ng hT hv2 hv6 h V7 hw3 J J J J) s5
   .exact h
  obtain⟨c',c1,c2,c3,c4⟩:=X9 (sb:=sb) s3 (by rw[hI.ym];exact Jt _ _ _) hI.gS hI.bit hI.old (by have:=hI.wA;omega)
  obtain⟨ns,hn⟩:=QR hT hR es (lo:=v6.e) (r:=w3.x) (last:=v6.x) (c:=c') (nl:=idx v6) (np:=idx v2) (sb:=v6.b) s6 (λE hE=>hX E (.tail _ hE)) (λE hE=>hp E (.tail _ hE))
   {ym:=c1
    gS:=c2
    val:=hv6.val
    nle:=hv6.le
    ahead:=λk w h1 h2=>by have:=hv6.ahead k w h1 h2;omega
    behind:=hv6.behind
    wA:=J
    old:=λj w hj hw=>by have:=c4 j w hj hw;omega
    bit:=c3
    le:=hle2
    prev:= .inr ⟨v2,hv2,J,.inr ⟨w5,w3,V7,hw3,J,J,J,J,s5⟩⟩
    same:= .inr ⟨v6,hv6,J⟩}
  refine⟨idx v2::ns,hle,hv2.le,hv2.val,λk w h1 h2=>by have:=hv2.ahead k w h1 h2;show w.b<v6.e;omega,λk t ht hf=>?_,hn⟩;obtain⟨x,hx⟩:=hT.put k t ht;have:=hT.one k t ht;have hf':t.fin<w1.b:=hf;exact hv2.behind k _ hx (by dsimp only;omega)
end
theorem Path.BV{α:Type}{v:α}{o:Op α}(h:Path (.ret v) l L o l'):L=[]/\o= .ret v/\l'=l:=by
 cases h;exact⟨rfl,rfl,rfl⟩
theorem Path.Ba{α:Type}{a:AD}{k:Int->Op α}{o:Op α}(h:Path (.ask a k) l L o l'):(L=[]/\o= .ask a k/\l'=l)\/∃b e x L',L= .acc a b e x::L'/\Path (k x) l L' o l':=by
 cases h with
 |nil=>exact .inl ⟨rfl,rfl,rfl⟩
 |ask b e x h=>exact .inr ⟨b,e,x,_,rfl,h⟩
theorem Path.Ed{α:Type}{k:Int->Op α}{v:α}(h:Path (.get i k) l L (.ret v) l'):Path (k (Ac l i)) l L (.ret v) l':=by
 cases h with
 |get h=>exact h
theorem Path.G7{α:Type}{k:Op α}{v:α}(h:Path (.set i x k) l L (.ret v) l'):Path k (I4 l i x) L (.ret v) l':=by
 cases h with
 |set h=>exact h
theorem Path.Rw{α:Type}{k:Int->Op α}{o:Op α}(h:Path (.get i k) l L o l'):(L=[]/\∀v,o≠ .ret v)\/Path (k (Ac l i)) l L o l':=by
 cases h with
 |nil=>exact .inl ⟨rfl,λv e=>by cases e⟩
 |get h=>exact .inr h
theorem Path.Nf{α:Type}{k:Op α}{o:Op α}(h:Path (.set i x k) l L o l'):(L=[]/\∀v,o≠ .ret v)\/Path k (I4 l i x) L o l':=by
 cases h with
 |nil=>exact .inl ⟨rfl,λv e=>by cases e⟩
 |set h=>exact .inr h
theorem Path.EO{α:Type}{a:AD}{k:Int->Op α}{v:α}(h:Path (.ask a k) l L (.ret v) l'):∃b e x L',L= .acc a b e x::L'/\Path (k x) l L' (.ret v) l':=by
 cases h with
 |ask b e x h=>exact⟨b,e,x,_,rfl,h⟩
theorem Rs{b lo β:tyI}(hlo:0<=lo/\lo+4<=32768){o:Op Int}(h:Path (oY b lo β) l L o l'):
  (L=[]/\∀x,o≠ .ret x)\/∃vb ve x0,(L=[.acc (2,b,β) vb ve x0]/\∀x,o≠ .ret x)\/∃rb re y,
   (L=[.acc (2,b,β) vb ve x0,.acc (1,b+2,0) rb re y]/\(y=Ac l (lo+1)->∀x,o≠ .ret x)/\(∀x,o= .ret x->Ac l' lo=β/\Ac l' (lo+1)=Ac l (lo+1)))\/
   ∃wb we x1,y=Ac l (lo+1)/\L=[.acc (2,b,β) vb ve x0,.acc (1,b+2,0) rb re y,.acc (2,b+1,wrap64 (1-Ac l (lo+1))) wb we x1]/\∀x,o= .ret x->Ac l' lo=β/\Ac l' (lo+1)=wrap64 (1-Ac l (lo+1)):=by
 unfold oY at h;rcases h.Ba with⟨rfl,rfl,rfl⟩|⟨vb,ve,x0,L1,hL,h'⟩
 .exact .inl ⟨rfl,λx e=>by cases e⟩
 subst hL
 replace h:=h'
 clear h'
 right
 have e1:Ac (I4 l lo β) (lo+1)=Ac l (lo+1):=by rw[CG _ _ _ _ J,AI J]
 refine⟨vb,ve,x0,?_⟩;rcases h.Nf with⟨rfl,hn⟩|h
 .exact .inl ⟨rfl,hn⟩
 rcases h.Rw with⟨rfl,hn⟩|h
 .exact .inl ⟨rfl,hn⟩
 rw[e1]at h;rcases h.Ba with⟨rfl,rfl,rfl⟩|⟨rb,re,y,L2,hL,h'⟩
 .exact .inl ⟨rfl,λx e=>by cases e⟩
 subst hL
 replace h:=h'
 clear h'
 right
 refine⟨rb,re,y,?_⟩;split at h
 .rename_i hy;rcases h.Ba with⟨rfl,rfl,rfl⟩|⟨wb,we,x1,L3,hL,h'⟩
  .exact .inl ⟨rfl,λ_ x e=>(by cases e),λx e=>(by cases e)⟩
  subst hL
  replace h:=h'
  clear h'
  right
  rcases h.Nf with⟨rfl,hn⟩|h
  .exact⟨wb,we,x1,hy,rfl,λx e=>absurd e (hn x)⟩
  obtain⟨rfl,rfl,rfl⟩:=h.BV;refine⟨wb,we,x1,hy,rfl,λx e=>⟨?_,?_⟩⟩
  .rw[CG _ _ _ _ J,AI J,CG _ _ _ _ J,AK rfl]
  .rw[CG _ _ _ _ J,AK rfl]
 .rename_i hy;obtain⟨rfl,rfl,rfl⟩:=h.BV;exact .inl ⟨rfl,λe=>absurd e hy,λx e=>⟨by rw[CG _ _ _ _ J,AK rfl],e1⟩⟩
def sy (b lo r y:tyI)(T:List Item):Prop:=(y=r/\T=[])\/(y≠r/\∃p q x,T=[.acc (2,b+2,wrap64 (1-r)) p q x])
theorem mb{b lo:tyI}(hlo:0<=lo/\lo+4<=32768){v:tyI}(h:Path (qM b lo) l L (.ret v) l'):
  ∃b1 e1 y1,(L=[.acc (1,b+1,0) b1 e1 y1]/\y1=Ac l (lo+2)/\v=Ac l (lo+3)/\l'=l)\/
  (y1≠Ac l (lo+2)/\∃b2 e2 x b3 e3 y3 T b4 e4 z b5 e5 y5 r',sy b lo (Ac l (lo+2)) y3 T/\r'=(if y3=Ac l (lo+2)then Ac l (lo+2)else wrap64 (1-Ac l (lo+2)))/\Ac l' (lo+2)=r'/\
   ((L= .acc (1,b+1,0) b1 e1 y1:: .acc (1,b,0) b2 e2 x:: .acc (1,b+1,0) b3 e3 y3::(T++[.acc (1,b,0) b4 e4 z,.acc (1,b+1,0) b5 e5 y5])/\y5=r'/\v=z/\Ac l' (lo+3)=z)\/
   ∃b6 e6 z6,L= .acc (1,b+1,0) b1 e1 y1:: .acc (1,b,0) b2 e2 x:: .acc (1,b+1,0) b3 e3 y3::(T++[.acc (1,b,0) b4 e4 z,.acc (1,b+1,0) b5 e5 y5,.acc (1,b,0) b6 e6 z6])/\y5≠r'/\v=x/\Ac l' (lo+3)=z6)):=by
 unfold qM at h;obtain⟨b1,e1,y1,L1,hL,h'⟩:=h.EO;subst hL
 replace h:=h'
 clear h'
 replace h:=h.Ed
 refine⟨b1,e1,y1,?_⟩;split at h
 .rename_i hy;obtain⟨rfl,h,rfl⟩:=h.Ed.BV;cases h
  exact .inl ⟨rfl,hy,rfl,rfl⟩
 rename_i hy
 right
 refine⟨hy,?_⟩;obtain⟨b2,e2,x,L2,hL,h'⟩:=h.EO;subst hL
 replace h:=h'
 clear h';obtain⟨b3,e3,y3,L3,hL,h'⟩:=h.EO;subst hL
 replace h:=h'
 clear h'
 replace h:=h.Ed
 generalize hr:Ac l (lo+2)=r at h|-
 have key:∃T L4 l2,L3=T++L4/\sy b lo r y3 T/\Path (KT b lo x) l2 L4 (.ret v) l'/\Ac l2 (lo+2)=(if y3=r then r else wrap64 (1-r)):=by
  unfold Hs at h;split at h
  .rename_i h3;exact⟨[],L3,l,rfl,.inl ⟨h3,rfl⟩,h,hr.trans (AK h3).symm⟩
  .rename_i h3
   replace h:=h.Ed
   rw[hr]at h;obtain⟨p,q,u,L4,hL,h'⟩:=h.EO;subst hL
   replace h:=h'
   clear h';exact⟨[_],L4,_,rfl,.inr ⟨h3,p,q,u,rfl⟩,h.G7,by rw[CG _ _ _ _ J,AK rfl,AI h3]⟩
 obtain⟨T,L4,l2,rfl,hT,h,h2⟩:=key;unfold KT at h;obtain⟨b4,e4,z,L5,hL,h'⟩:=h.EO;subst hL
 replace h:=h'
 clear h'
 replace h:=h.G7
 obtain⟨b5,e5,y5,L6,hL,h'⟩:=h.EO;subst hL
 replace h:=h'
 clear h'
 replace h:=h.Ed
 have e3':Ac (I4 l2 (lo+3) z) (lo+2)=Ac l2 (lo+2):=by rw[CG _ _ _ _ J,AI J]
 rw[e3',h2]at h;obtain⟨r',hr'⟩:=gX (if y3=r then r else wrap64 (1-r));rw[hr']at h h2;refine⟨b2,e2,x,b3,e3,y3,T,b4,e4,z,b5,e5,y5,r',hT,hr'.symm,?_⟩;split at h
 .rename_i h5
  replace h:=h.Ed
  rw[CG _ _ _ _ J,AK rfl]at h;obtain⟨rfl,h,rfl⟩:=h.BV;cases h
  exact⟨e3'.trans h2,.inl ⟨rfl,h5,rfl,by rw[CG _ _ _ _ J,AK rfl]⟩⟩
 .rename_i h5;obtain⟨b6,e6,z6,L7,hL,h'⟩:=h.EO;subst hL
  replace h:=h'
  clear h';obtain⟨rfl,hv,rfl⟩:=h.G7.BV;refine⟨?_,.inr ⟨b6,e6,z6,rfl,h5,Op.ret.inj hv,by rw[CG _ _ _ _ J,AK rfl]⟩⟩;rw[CG _ _ _ _ J,AI J];exact e3'.trans h2
structure SW (ws:List WR)(rd:Nat->Nat->Int->Prop)(f:Nat->Nat):Prop where
 le:∀b e x,rd b e x->f b<=ws.length
 val:∀b e x,rd b e x->x=EI ws (f b)
 ahead:∀b e x,rd b e x->∀k w,ws[k]?=some w->k<f b->w.b<e
 behind:∀b e x,rd b e x->∀k w,ws[k]?=some w->w.e<b->k<f b
 mono:∀b e x b' e' x',rd b e x->rd b' e' x'->e<b'->f b<=f b'
def DR (lo:tyN):List Item->Nat
 |[]=>lo
 | .note _ p::_=>p
 | .acc _ b _ _::_=>b
def Ch.fb (u:Ch):Nat:=DR u.lo u.its
def Ch.e (N:tyN)(u:Ch):Nat:=match u.res with
 |none=>N
 |some _=>AM u.lo u.its
def Ch.wr (N:tyN)(u:Ch):WR:=⟨u.a.2.2,u.fb,u.e N⟩
def B6 (N:tyN)(U:List Ch)(b e:tyN)(x:tyI):Prop:= ∃u,u∈U/\u.fb=b/\u.e N=e/\u.res=some x/\e<N
def QC (c:tyI):Item->Option WR
 | .note _ _=>none
 | .acc a b e _=>if a.1=2/\a.2.1=c then some ⟨a.2.2,b,e⟩else none
def EU (c:tyI)(U:List Ch):List WR:=(U.flatMap Ch.its).filterMap (QC c)
def TL (c:tyI)(U:List Ch)(b e:tyN)(x:tyI):Prop:= ∃u,u∈U/\Item.acc (1,c,0) b e x∈u.its
structure ZX (N:tyN)(ws:List WR)(rd:Nat->Nat->Int->Prop):Prop where
 exact:∀b e x,rd b e x->e<N->R0 ws ⟨b,e,x⟩
 bit:∀b e x,rd b e x->e<N->x=0\/x=1
 apart:∀b e x,rd b e x->e<N->∀w,w∈ws->w.b≠e
theorem Bz{ws:List WR}{w:WR}(h:ws[k]?=some w):EI ws (k+1)=w.v:=by
 show(ws.getD k _).v=_;rw[gD,h];rfl
theorem cV(T:tyN):∀(ws:List WR),(∀(j k:tyN) (s w:WR),j<k->ws[j]?=some s->ws[k]?=some w->s.e<w.b)->(∀w,w∈ws->w.b<w.e)->∃n,n<=ws.length/\(∀j w,j<n->ws[j]?=some w->w.e<T)/\∀j w,n<=j->ws[j]?=some w->T<=w.e
 |[],_,_=>⟨0,A9 _,λj w hj=>J,λj w _ h=>by simp at h⟩
 |w::ws,hs,hv=>by
  obtain⟨n,h1,h2,h3⟩:=cV T ws (λj k s u hj hs' hu=>hs (j+1) (k+1) s u J hs' hu) λu hu=>hv u (.tail _ hu)
  rcases CR w.e T with h|h
  .refine⟨n+1,by simpa using h1,λj u hj hu=>?_,λj u hj hu=>?_⟩
   .cases j with
    |zero=>simp at hu;subst hu;exact h
    |succ j=>exact h2 j u J (Cw hu)
   .cases j with
    |zero=>omega
    |succ j=>exact h3 j u J (Cw hu)
  .refine⟨0,DV _,λj u hj=>J,λj u _ hu=>?_⟩;cases j with
   |zero=>simp at hu;subst hu;exact h
   |succ j=>
    have h4:=hs 0 (j+1) w u J rfl hu;have h5:=hv u (BI hu);omega
theorem ZX.idx{N:tyN}{ws:List WR}{rd:Nat->Nat->Int->Prop}(h:ZX N ws rd)(hs:∀(j k:tyN) (s w:WR),j<k->ws[j]?=some s->ws[k]?=some w->s.e<w.b)(hv:∀w,w∈ws->w.b<w.e)
  (ha:∀k,k<=ws.length->EI ws k=((k%2:tyN):tyI)) {b e:tyN}  (hr:rd b e x) (he:e<N) (hbe:b<e):∃n,P8 ws ⟨b,e,x⟩ n:=by
 obtain⟨n,h1,h2,h3⟩:=cV b ws hs hv;have hx:=h.bit b e x hr he;by_cases ho:∃w,ws[n]?=some w/\w.b<e
 .obtain⟨w,hw,hwb⟩:=ho;have hlt:=(Be.1 hw).1
  have ok:∀m,m=n\/m=n+1->x=((m%2:tyN):tyI)->P8 ws ⟨b,e,x⟩ m:=λm hm hxm=>by
   refine⟨hxm,J,λk u hu hk=>?_,λk u hu hlt'=>?_⟩
   .show u.b<e;rcases CR k n with g|g
    .have:=h2 k u g hu;have:=hv u (BI hu);omega
    .have:k=n:=J;subst this;rw[hw]at hu;cases hu;exact hwb
   .rcases CR k n with g|g
    .omega
    .have:=h3 k u g hu;have hlt'':u.e<b:=hlt';omega
  by_cases hp:x=((n%2:tyN):tyI)
  .exact⟨n,ok n (.inl rfl) hp⟩
  .exact⟨n+1,ok (n+1) (.inr rfl) J⟩
 .have h4:∀j w,n<=j->ws[j]?=some w->e<w.b:=λj w hj hw=>by
   have hap:=h.apart b e x hr he w (BI hw);rcases CR e w.b with g|g
   .exact g
   .exfalso;have hlt:=(Be.1 hw).1;have hn:ws[n]?=some ws[n]:=gG J;refine ho ⟨_,hn,?_⟩;rcases CR n j with g2|g2
    .have h5:=hs n j _ w g2 hn hw;have h6:=hv _ (BI hn);omega
    .have:n=j:=J;subst this;rw[El (hn.symm.trans hw)];omega
  have h5:=h.exact b e x hr he n h1 h2 h4
  exact⟨n,(show x=_ from h5).trans (ha n h1),h1,λk u hu hk=>by
   have:=h2 k u hk hu;have:=hv u (BI hu);show u.b<e;omega,λk u hu hlt=>by
   rcases CR k n with g|g
   .exact g
   .have:=h3 k u g hu;have hlt':u.e<b:=hlt
    omega⟩
theorem tE(n:tyN)(key val:Nat->Nat)(hk:∀i j,i<j->j<n->key i≠key j):∃f:Nat->Nat,∀i,i<n->f (key i)=val i:=by
 classical
 refine⟨λb=>if h:∃i,i<n/\key i=b then val (Classical.choose h)else 0,λi hi=>?_⟩;have h:∃j,j<n/\key j=key i:=⟨i,hi,rfl⟩;show(if h:∃j,j<n/\key j=key i then val (Classical.choose h)else 0)=val i;rw[IG h];obtain⟨h1,h2⟩:=Cg h;rcases Fq (Classical.choose h) i with g|g|g
 .exact absurd h2 (hk _ _ g hi)
 .rw[g]
 .exact absurd h2.symm (hk _ _ g h1)
def gI (g:tyI):List EH->Nat->Int
 |_,0=>g
 |[],_+1=>g
 |t::ts,n+1=>gI (1-t.y) ts n
def gk (g:tyI):List WR->Nat->Int
 |_,0=>g
 |[],_+1=>g
 |w::ws,n+1=>gk w.v ws n
theorem dI(g:tyI)(ts:List EH):gI g ts 0=g:=by cases ts<;>rfl
theorem TJ(g:tyI)(ws:List WR):gk g ws 0=g:=by cases ws<;>rfl
theorem tA:∀(tw:List EH) (g:tyI) (k:tyN),k<tw.length->gI g tw (k+1)=ux tw (k+1)
 |t::ts,g,0,h=>dI _ ts
 |t::ts,g,k+1,h=>by
  show gI (1-t.y) ts (k+1)=_;rw[tA ts _ k (Cw h)];rfl
theorem mX{tw:List EH}(h:k<=tw.length):gI 0 tw k=ux tw k:=by
 cases k with
 |zero=>cases tw<;>rfl
 |succ k=>exact tA tw 0 k h
theorem cH:∀(ws:List WR) (g:tyI) (k:tyN),k<ws.length->gk g ws (k+1)=EI ws (k+1)
 |w::ws,g,0,h=>TJ _ ws
 |w::ws,g,k+1,h=>by
  show gk w.v ws (k+1)=_;rw[cH ws _ k (Cw h)];rfl
theorem Zy{ws:List WR}(h:k<=ws.length):gk 0 ws k=EI ws k:=by
 cases k with
 |zero=>cases ws<;>rfl
 |succ k=>exact cH ws 0 k h
def EH.ww (t:EH):List WR:=RA (1-t.y) t.w
def Zz:Nat->Int->List WR->List EH->Prop
 |_,_,[],ts=>ts=[]
 |lo,_,w::ws,[]=>lo<w.b/\w.b<w.e/\ws=[]
 |lo,g,w::ws,t::ts=>lo<w.b/\w.b<w.e/\t.vb=w.b/\t.ve=w.e/\t.ve<t.rb/\t.rb<t.re/\(t.w=none->t.y≠g)/\(∀p q,t.w=some (p,q)->t.y=g/\t.re<p/\p<q)/\(t.y=0\/t.y=1)/\Zz t.fin (1-t.y) ws ts
theorem EH.jg{t:EH}(h:∀p q,t.w=some (p,q)->t.re<p/\p<q):t.re<=t.fin:=by
 unfold EH.fin;cases e:t.w with
 |none=>exact A9 _
 |some p=>have:=h p.1 p.2 e;show t.re<=p.2;omega
theorem Zz.low:∀{ws:List WR} {ts:List EH} {lo:tyN} {g:tyI},Zz lo g ws ts->∀w,w∈ws->lo<w.b/\w.b<w.e
 |[],ts,lo,g,h,w,hw=>by cases hw
 |v::ws,[],lo,g,h,w,hw=>by
  obtain⟨h1,h2,rfl⟩:=h;rw[Bq]at hw;subst hw;exact⟨h1,h2⟩
 |v::ws,t::ts,lo,g,h,w,hw=>by
  obtain⟨h1,h2,h3,h4,h5,h6,h7,h8,h9,h10⟩:=h;rcases BJ.1 hw with rfl|hw
  .exact⟨h1,h2⟩
  .have h11:=h10.low w hw;have:=EH.jg (t:=t) λp q e=>(h8 p q e).2
   exact⟨J,h11.2⟩
theorem Zz.facts:∀{ws:List WR} {ts:List EH} {lo:tyN} {g:tyI},Zz lo g ws ts->
  (∀(k:tyN) (t:EH),ts[k]?=some t->∃v,ws[k]?=some ⟨v,t.vb,t.ve⟩)/\
  (∀(k:tyN) (t:EH),ts[k]?=some t->t.vb<t.ve/\t.ve<t.rb/\t.rb<t.re/\t.re<=t.fin/\∀p q,t.w=some (p,q)->t.re<p/\p<q/\q=t.fin)/\
  (∀(j k:tyN) (s:EH) (w:WR),j<k->ts[j]?=some s->ws[k]?=some w->s.fin<w.b)/\
  (∀(k:tyN) (t:EH),ts[k]?=some t->t.w≠none->t.y=gI g ts k)/\
  (∀(j k:tyN) (s w:WR),j<k->ws[j]?=some s->ws[k]?=some w->s.e<w.b)
 |[],ts,lo,g,h=>by
  have:ts=[]:=h;subst this;exact⟨λk t h=>by simp at h,λk t h=>by simp at h,λj k s w _ h=>by simp at h,λk t h=>by simp at h,λj k s w _ h=>by simp at h⟩
 |v::ws,[],lo,g,h=>by
  obtain⟨h1,h2,rfl⟩:=h;refine⟨λk t h=>by simp at h,λk t h=>by simp at h,λj k s w _ h=>by simp at h,λk t h=>by simp at h,λj k s w hjk h h'=>?_⟩;have:=(Be.1 h').1;simp at this;omega
 |v::ws,t::ts,lo,g,h=>by
  obtain⟨h1,h2,h3,h4,h5,h6,h7,h8,h9,h10⟩:=h;obtain⟨g1,g2,g3,g4,g5⟩:=h10.facts;have hre:=EH.jg (t:=t) λp q e=>(h8 p q e).2
  refine⟨λk s hs=>?_,λk s hs=>?_,λj k s w hjk hs hw=>?_,λk s hs hw=>?_,λj k s w hjk hs hw=>?_⟩
  .cases k with
   |zero=>simp at hs;subst hs;exact⟨v.v,by rw[h3,h4];rfl⟩
   |succ k=>exact g1 k s (Cw hs)
  .cases k with
   |zero=>
    simp at hs;subst hs;refine⟨J,h5,h6,hre,λp q e=>⟨(h8 p q e).2.1,(h8 p q e).2.2,?_⟩⟩;unfold EH.fin;rw[e]
   |succ k=>exact g2 k s (Cw hs)
  .obtain⟨k,rfl⟩:∃i,k=i+1:=⟨k-1,J⟩;have hw':ws[k]?=some w:=by simpa using hw
   cases j with
   |zero=>simp at hs;subst hs;exact(h10.low w (BI hw')).1
   |succ j=>exact g3 j k s w J (Cw hs) hw'
  .cases k with
   |zero=>
    simp at hs;subst hs;cases e:t.w with
    |none=>exact absurd e hw
    |some p=>exact(h8 p.1 p.2 e).1
   |succ k=>exact g4 k s (Cw hs) hw
  .obtain⟨k,rfl⟩:∃i,k=i+1:=⟨k-1,J⟩;have hw':ws[k]?=some w:=by simpa using hw
   cases j with
   |zero=>
    simp at hs;subst hs;have:=(h10.low w (BI hw')).1;omega
   |succ j=>exact g5 j k s w J (Cw hs) hw'
theorem Zz.ok{ws:List WR}{ts:List EH}(h:Zz lo 0 ws ts):qe ws ts:=by
 obtain⟨g1,g2,g3,g4,g5⟩:=h.facts;exact⟨g1,g2,g3,λk t ht hw=>(g4 k t ht hw).trans (mX (BP (Be.1 ht).1)),g5,λk w hw=>(h.low w (BI hw)).2⟩
theorem Zz.count:∀{ws:List WR} {ts:List EH} {lo:tyN} {g:tyI},Zz lo g ws ts->(g=0\/g=1)->∀n,n<=ts.length->∃m,m<=(ts.flatMap EH.ww).length/\gk g (ts.flatMap EH.ww) m=gI g ts n/\
  (∀j w,j<m->(ts.flatMap EH.ww)[j]?=some w->∃i t p,i<n/\ts[i]?=some t/\t.w=some (p,w.e)/\w.b=p)/\(∀j w,m<=j->(ts.flatMap EH.ww)[j]?=some w->∃i t q,n<=i/\ts[i]?=some t/\t.w=some (w.b,q))
 |ws,[],lo,g,h,hg,n,hn=>by
  have:n=0:=by simpa using hn
  subst this;exact⟨0,A9 _,rfl,λj w hj=>J,λj w _ hw=>by simp at hw⟩
 |[],t::ts,lo,g,h,hg,n,hn=>by cases(show t::ts=[]from h)
 |v::ws,t::ts,lo,g,h,hg,n,hn=>by
  obtain⟨h1,h2,h3,h4,h5,h6,h7,h8,h9,h10⟩:=h;have hg':1-t.y=0\/1-t.y=1:=J
  have all:∀(j:tyN) (w:WR),((t::ts).flatMap EH.ww)[j]?=some w->∃(i:tyN) (s:EH) (q:tyN),((t::ts))[i]?=some s/\s.w=some (w.b,q):=λj w hw=>by
   obtain⟨s,hs,hw2⟩:=FZ.1 (BI hw);obtain⟨i,hi,e⟩:=Dj hs;unfold EH.ww at hw2;cases e2:s.w with
   |none=>rw[e2]at hw2;cases hw2
   |some p=>
    rw[e2]at hw2;have:w=⟨1-s.y,p.1,p.2⟩:=by simpa[RA]using hw2
    exact⟨i,s,p.2,by rw[gG hi,e],by rw[e2,this]⟩
  cases n with
  |zero=>
   refine⟨0,DV _,by rw[TJ,dI],λj w hj=>J,λj w _ hw=>?_⟩;obtain⟨i,s,q,q1,q2⟩:=all j w hw;exact⟨i,s,q,DV _,q1,q2⟩
  |succ n=>
   obtain⟨m,m1,m2,m3,m4⟩:=h10.count hg' n (Cw hn);cases e:t.w with
   |none=>
    have e1:(t::ts).flatMap EH.ww=ts.flatMap EH.ww:=by
     show t.ww++_=_;unfold EH.ww;rw[e];rfl
    have e2:g=1-t.y:=by have:=h7 e;omega
    rw[e1];refine⟨m,m1,by rw[e2];exact m2,λj w hj hw=>?_,λj w hj hw=>?_⟩
    .obtain⟨i,s,p,q1,q2⟩:=m3 j w hj hw;exact⟨i+1,s,p,J,by simpa using q2⟩
    .obtain⟨i,s,p,q1,q2⟩:=m4 j w hj hw;exact⟨i+1,s,p,J,by simpa using q2⟩
   |some p=>
    have e1:(t::ts).flatMap EH.ww=⟨1-t.y,p.1,p.2⟩::ts.flatMap EH.ww:=by
     show t.ww++_=_;unfold EH.ww;rw[e];rfl
    rw[e1];refine⟨m+1,by simpa using m1,m2,λj w hj hw=>?_,λj w hj hw=>?_⟩
    .cases j with
     |zero=>simp at hw;subst hw;exact⟨0,t,p.1,J,rfl,e,rfl⟩
     |succ j=>
      obtain⟨i,s,p,q1,q2⟩:=m3 j w J (Cw hw);exact⟨i+1,s,p,J,by simpa using q2⟩
    .obtain⟨j,rfl⟩:∃i,j=i+1:=⟨j-1,J⟩;obtain⟨i,s,p,q1,q2⟩:=m4 j w J (Cw hw);exact⟨i+1,s,p,J,by simpa using q2⟩
theorem Zz.uu{ws:List WR}{ts:List EH}(h:Zz lo 0 ws ts){r:RV}(hr:R0 (ts.flatMap EH.ww) r):Jf ts r:=λn hn h1 h2=>by
 obtain⟨m,m1,m2,m3,m4⟩:=h.count (.inl rfl) n hn;rw[<-mX hn,<-m2,Zy m1];refine hr m m1 (λj w hj hw=>?_) λj w hj hw=>?_
 .obtain⟨i,t,p,q1,q2,q3,q4⟩:=m3 j w hj hw;exact h1 i t p w.e q1 q2 q3
 .obtain⟨i,t,q,q1,q2,q3⟩:=m4 j w hj hw;exact h2 i t w.b q q1 q2 q3
theorem Fl(c:tyI)(u:Ch)(U:List Ch):EU c (u::U)=u.its.filterMap (QC c)++EU c U:=by
 unfold EU;rw[It,Po]
theorem No(c v:tyI)(c':tyI)(b e:tyN)(x:tyI):QC c (.acc (2,c',v) b e x)=if c'=c then some ⟨v,b,e⟩else none:=by
 show(if(2:tyI)=2/\c'=c then some (⟨v,b,e⟩:WR)else none)=_;by_cases h:c'=c
 .rw[AK ⟨rfl,h⟩,AK h]
 .rw[AI (λq=>h q.2),AI h]
theorem Fv(c c' v:tyI)(b e:tyN)(x:tyI):QC c (.acc (1,c',v) b e x)=none:=by
 show(if(1:tyI)=2/\c'=c then some (⟨v,b,e⟩:WR)else none)=_;rw[AI (λq=>absurd q.1 AQ)]
theorem Hq{g:tyI}(h:g=0\/g=1):wrap64 (1-g)=1-g:=IntWalk.wrap64_in _ J
theorem tS{b lo:tyI}(hlo:0<=lo/\lo+4<=32768){rg:Int->Prop}(hr0:rg lo)(hr1:rg (lo+1)){N:tyN}:∀(U:List Ch) {lo':tyN} {σ:Int->Int} {v g:tyI},Bk (Ix b lo) rg N lo' σ U->σ lo=v->σ (lo+1)=g->(v=0\/v=1)->(g=0\/g=1)->
  (∀u,u∈U->u.a.1=2/\(u.a.2.2=0\/u.a.2.2=1)/\Ac u.l lo≠u.a.2.2/\u.a.2.1=b/\u.its≠[])->(∀(rb re:tyN) (y:tyI),TL (b+2) U rb re y->re<N->y=0\/y=1)->
  ∃tw:List EH,Zz lo' g (EU b U) tw/\EU (b+1) U=tw.flatMap EH.ww/\(∀t:EH,t∈tw->TL (b+2) U t.rb t.re t.y/\t.re<N)/\(EU b U).length=U.length/\
   (∀(k:tyN) (u:Ch),U[k]?=some u->∃ve,(EU b U)[k]?=some ⟨u.a.2.2,u.fb,ve⟩)/\(∀(k:tyN) (u:Ch),U[k]?=some u->u.e N<N->∃t:EH,tw[k]?=some t/\t.fin=u.e N)/\(∀(k:tyN) (u:Ch),U[k]?=some u->u.a.2.2=if k%2=0 then 1-v else v)
 |[],lo',σ,v,g,h,hv,hg,hvb,hgb,hu,hy=>⟨[],rfl,rfl,λt ht=>by(cases ht),rfl,λk u h=>by simp at h,λk u h=>by simp at h,λk u h=>by simp at h⟩
 |u::U,lo',σ,v,g,h,hv,hg,hvb,hgb,hu,hy=>by
  obtain⟨h1,h2,h3,h4,⟨o,h5,h5'⟩,h6,h7⟩:=h;obtain⟨a1,a2,a3,a4,a5⟩:=hu u (.head _);have hlv:Ac u.l lo=v:=(h4 lo hr0).trans hv;have hlg:Ac u.l (lo+1)=g:=(h4 (lo+1) hr1).trans hg;have hβ:u.a.2.2=1-v:=by rw[hlv]at a3;omega
  unfold Ix at h5;rw[AI (by rw[a1];decide)]at h5;have dk:=Rs hlo h5;rw[hlg,Hq hgb]at dk
  have hcut:∀vb ve x0 rest,u.its= .acc (2,b,u.a.2.2) vb ve x0::rest->rest.filterMap (QC b)=[]->(rest.filterMap (QC (b+1))=[])->U=[]->¬u.e N<N->
    ∃tw:List EH,Zz lo' g (EU b (u::U)) tw/\EU (b+1) (u::U)=tw.flatMap EH.ww/\(∀t:EH,t∈tw->TL (b+2) (u::U) t.rb t.re t.y/\t.re<N)/\(EU b (u::U)).length=(u::U).length/\
     (∀(k:tyN) (w:Ch),(u::U)[k]?=some w->∃ve,(EU b (u::U))[k]?=some ⟨w.a.2.2,w.fb,ve⟩)/\(∀(k:tyN) (w:Ch),(u::U)[k]?=some w->w.e N<N->∃t:EH,tw[k]?=some t/\t.fin=w.e N)/\(∀(k:tyN) (w:Ch),(u::U)[k]?=some w->w.a.2.2=if k%2=0 then 1-v else v):=λvb ve x0 rest e1 e2 e3 e4 e5=>by
   subst e4
   have w1:EU b [u]=[⟨u.a.2.2,vb,ve⟩]:=by
    rw[Fl,e1,Dh,No,AK rfl];show _::(_++_)=_;rw[e2];rfl
   have w2:EU (b+1) [u]=[]:=by
    rw[Fl,e1,Dh,No,AI J];show List.filterMap _ _++_=_;rw[e3];rfl
   rw[e1]at h2;have KK:u.fb=vb:=by unfold Ch.fb;rw[e1];rfl
   rw[w1,w2];refine⟨[],⟨Ro h1 h2.1,h2.2.1,rfl⟩,rfl,λt ht=>by(cases ht),rfl,λk w hw=>?_,λk w hw hlt=>?_,λk w hw=>?_⟩
   all_goals(
    have hk:k=0:=by have:=(Be.1 hw).1;simpa using this
    subst hk;simp at hw
    subst hw)
   .exact⟨ve,by rw[KK];rfl⟩
   .exact absurd hlt e5
   .rw[hβ];rfl
  have hnone:(∀x,o≠ .ret x)->U=[]/\¬u.e N<N:=λhn=>by
   have:u.res=none:=by
    cases e:u.res with
    |none=>rfl
    |some x=>exact absurd (h5' x e) (hn x)
   exact⟨h6 this,by unfold Ch.e;rw[this];exact EL _⟩
  have xZ:N<=AM u.lo u.its->U=[]/\¬u.e N<N:=λhn=>by
   constructor
   .cases U with
    |nil=>rfl
    |cons w W=>
     exfalso;obtain⟨k1,k2,k3,_⟩:=h7;have hne:=(hu w On).2.2.2.2
     have:w.lo<AM w.lo w.its:=by
      cases e:w.its with
      |nil=>exact absurd e hne
      |cons i L=>
       rw[e]at k2;cases i with
       |note k p=>exact B5 k2.1 (Seq.A7 (L:=L) k2.2)
       |acc a b e x=>exact B5 (kH k2.1 k2.2.1) (Seq.A7 (L:=L) k2.2.2)
     omega
   .unfold Ch.e;cases e:u.res with
    |none=>exact EL _
    |some x=>show¬AM u.lo u.its<N;omega
  have hall:∀vb ve x0 rb re y (w:Option (Nat×Nat)) rest,u.its= .acc (2,b,u.a.2.2) vb ve x0:: .acc (1,b+2,0) rb re y::rest->re<N->(w=none/\y≠g/\rest=[]\/∃p q x1,w=some (p,q)/\y=g/\rest=[.acc (2,b+1,1-g) p q x1])->
    (∀x,u.res=some x->Ac u.l' lo=u.a.2.2/\Ac u.l' (lo+1)=1-y)->(u.res=none->U=[])->
    ∃tw:List EH,Zz lo' g (EU b (u::U)) tw/\EU (b+1) (u::U)=tw.flatMap EH.ww/\(∀t:EH,t∈tw->TL (b+2) (u::U) t.rb t.re t.y/\t.re<N)/\(EU b (u::U)).length=(u::U).length/\
     (∀(k:tyN) (w:Ch),(u::U)[k]?=some w->∃ve,(EU b (u::U))[k]?=some ⟨w.a.2.2,w.fb,ve⟩)/\(∀(k:tyN) (w:Ch),(u::U)[k]?=some w->w.e N<N->∃t:EH,tw[k]?=some t/\t.fin=w.e N)/\(∀(k:tyN) (w:Ch),(u::U)[k]?=some w->w.a.2.2=if k%2=0 then 1-v else v):=λvb ve x0 rb re y w rest e1 e2 e3 e4 e5=>by
   have hyb:y=0\/y=1:=hy rb re y ⟨u,.head _,by rw[e1];simp⟩ e2
   have w1:EU b (u::U)=⟨u.a.2.2,vb,ve⟩::EU b U:=by
    rw[Fl,e1,Dh,No,AK rfl,Dh,Fv];rcases e3 with⟨_,_,e3⟩|⟨p,q,x1,_,_,e3⟩
    .rw[e3];rfl
    .rw[e3,Dh,No,AI J];rfl
   have w2:EU (b+1) (u::U)=RA (1-y) w++EU (b+1) U:=by
    rw[Fl,e1,Dh,No,AI J,Dh,Fv];rcases e3 with⟨e0,_,e3⟩|⟨p,q,x1,e0,e00,e3⟩
    .rw[e3,e0];rfl
    .rw[e3,e0,Dh,No,AK rfl,e00];rfl
   have hs:=h2;rw[e1]at hs;obtain⟨s1,s2,s3,s4,s5⟩:=hs;have KK:u.fb=vb:=by unfold Ch.fb;rw[e1];rfl
   have hfin:AM u.lo u.its=EH.fin ⟨vb,ve,rb,re,y,w⟩:=by
    rw[e1];rcases e3 with⟨e0,_,e3⟩|⟨p,q,x1,e0,e00,e3⟩<;>rw[e3,e0]<;>rfl
   have hw8:∀p q,w=some (p,q)->y=g/\re<p/\p<q:=λp q e=>by
    rcases e3 with⟨e0,_,e3⟩|⟨p',q',x1,e0,e00,e3⟩
    .rw[e0]at e;cases e
    .rw[e0]at e;cases e;rw[e3]at s5;exact⟨e00,s5.1,s5.2.1⟩
   have hw7:w=none->y≠g:=λe=>by
    rcases e3 with⟨e0,e3,_⟩|⟨p',q',x1,e0,_⟩
    .exact e3
    .rw[e0]at e;cases e
   have rest:∃tw:List EH,Zz (EH.fin ⟨vb,ve,rb,re,y,w⟩) (1-y) (EU b U) tw/\EU (b+1) U=tw.flatMap EH.ww/\(∀t:EH,t∈tw->TL (b+2) U t.rb t.re t.y/\t.re<N)/\(EU b U).length=U.length/\
     (∀(k:tyN) (u:Ch),U[k]?=some u->∃ve,(EU b U)[k]?=some ⟨u.a.2.2,u.fb,ve⟩)/\(∀(k:tyN) (u:Ch),U[k]?=some u->u.e N<N->∃t:EH,tw[k]?=some t/\t.fin=u.e N)/\(∀(k:tyN) (w:Ch),U[k]?=some w->w.a.2.2=if k%2=0 then v else 1-v):=by
    cases hres:u.res with
    |none=>
     rw[e5 hres];exact⟨[],rfl,rfl,λt ht=>by(cases ht),rfl,λk u h=>by simp at h,λk u h=>by simp at h,λk u h=>by simp at h⟩
    |some x=>
     obtain⟨l1,l2⟩:=e4 x hres;obtain⟨tw,t1,t2,t3,t4,t5,t6,t7⟩:=tS hlo hr0 hr1 U (v:=1-v) (g:=1-y) h7 (l1.trans hβ) l2 J J (λw hw=>hu w (.tail _ hw)) λrb re y ⟨w,hw,hm⟩=>hy rb re y ⟨w,.tail _ hw,hm⟩
     rw[hfin]at t1;exact⟨tw,t1,t2,t3,t4,t5,t6,λk w hw=>by rw[t7 k w hw];split<;>omega⟩
   obtain⟨tw,t1,t2,t3,t4,t5,t6,t7⟩:=rest;rw[w1,w2];refine⟨⟨vb,ve,rb,re,y,w⟩::tw,⟨Ro h1 s1,s2,rfl,rfl,s3,s4,hw7,hw8,hyb,t1⟩,by rw[t2];rfl,λt ht=>?_,by simpa using t4,λk w hw=>?_,λk w hw hlt=>?_,λk w hw=>?_⟩
   .rcases BJ.1 ht with rfl|ht
    .exact⟨⟨u,.head _,by rw[e1];simp⟩,e2⟩
    .obtain⟨⟨w,q1,q2⟩,q3⟩:=t3 t ht;exact⟨⟨w,.tail _ q1,q2⟩,q3⟩
   .cases k with
    |zero=>simp at hw;subst hw;exact⟨ve,by rw[KK];rfl⟩
    |succ k=>exact t5 k w (Cw hw)
   .cases k with
    |zero=>
     simp at hw;subst hw;refine⟨_,rfl,?_⟩;rw[<-hfin];unfold Ch.e at hlt|-;cases e:u.res with
     |none=>rw[e]at hlt;exact absurd hlt (EL _)
     |some x=>rfl
    |succ k=>exact t6 k w (Cw hw) hlt
   .cases k with
    |zero=>simp at hw;subst hw;exact hβ
    |succ k=>rw[t7 k w (Cw hw)];split<;>split<;>first|rfl|omega
  rcases dk with⟨e,_⟩|⟨vb,ve,x0,⟨e,hn⟩|⟨rb,re,y,⟨e,hn1,hn2⟩|⟨wb,we,x1,e0,e,hn⟩⟩⟩
  .exact absurd e a5
  .obtain⟨q1,q2⟩:=hnone hn;exact hcut vb ve x0 [] e rfl rfl q1 q2
  .rcases CR re N with hre|hre
   .by_cases hyg:y=g
    .obtain⟨q1,q2⟩:=hnone (hn1 hyg);exact hcut vb ve x0 _ e (by rw[Dh,Fv];rfl) (by rw[Dh,Fv];rfl) q1 q2
    .have hyb:y=0\/y=1:=hy rb re y ⟨u,.head _,by rw[e];simp⟩ hre;exact hall vb ve x0 rb re y none [] e hre (.inl ⟨rfl,hyg,rfl⟩) (λx hx=>⟨(hn2 x (h5' x hx)).1,by rw[(hn2 x (h5' x hx)).2];omega⟩) h6
   .obtain⟨q1,q2⟩:=xZ (by rw[e];exact hre);exact hcut vb ve x0 _ e (by rw[Dh,Fv];rfl) (by rw[Dh,Fv];rfl) q1 q2
  .have hs:=h2;rw[e]at hs;have hlast:we<=N:=by have:=h3;rw[e]at this;exact this
   exact hall vb ve x0 rb re y (some (wb,we)) _ e (by have:=hs.2.2.2.2.1;have:=hs.2.2.2.2.2.1;omega) (.inr ⟨wb,we,x1,rfl,e0,rfl⟩) (λx hx=>⟨(hn x (h5' x hx)).1,by rw[(hn x (h5' x hx)).2,e0]⟩) h6
end
end Go.Proofs.YtpodgcpkccpnfaaGreat
