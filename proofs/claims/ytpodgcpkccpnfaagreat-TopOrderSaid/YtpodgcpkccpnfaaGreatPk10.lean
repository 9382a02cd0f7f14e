import Derived.Test.YtpodgcpkccpnfaaGreatPk06
import Derived.Test.YtpodgcpkccpnfaaGreatPk09
set_option linter.unusedVariables false
set_option linter.unusedSimpArgs false
set_option maxRecDepth 20000
set_option maxHeartbeats 40000000
namespace Go.Proofs.YtpodgcpkccpnfaaGreat
variable{x:Int}{l:List Int}{a:N8}{b e g j n0 q t:Nat}{f:Nat->Value}{A L Nn:Option Addr}{M:Prop}{s':TS}{v:Value}{w w':World}
section
open Go.RowKit
theorem lG{n:tyI}(h0:0<=n)(h1:n<32768):Wf n:=by unfold Wf;simp[Lit.wf,IntKind.min,IntKind.max,IntKind.signed,IntKind.bits];omega
def eO (er:tyI)(s s1:BS):Int×BS:=if er≠0 then(er,s)else(0,s1)
theorem Yf{er:tyI}{s s1:BS}(h:er≠0):eO er s s1=(er,s):=by unfold eO;rw[AK h]
theorem QU{s s1:BS}:eO 0 s s1=(0,s1):=by unfold eO;rw[AI Az]
theorem ZL(l:List SD)(B h N:tyN)(s:BS)(X:Nat->Prop)(t k cl v:tyI)(w:tyW)(hfit:Fit l)(ht0: -9223372036854775808<=t)(ht1:t<=9223372036854775807)(H:ED w B h l s N X)(hN:N<=90000):
  Calls Tryz.prog 85 #[pT h,t,.agg #[k,cl,v]] w λe w'=>e=BA (O (s.begin (Cl l l.length) 6 (Gs l) t k cl v).1)/\ED w' B h l (s.begin (Cl l l.length) 6 (Gs l) t k cl v).2 (N+9) (XG X w w')/\Fr w w' X:=by
 have HH:=I H
 have HB:=I (show B<=w.heap.size from by
  obtain⟨m,R,sz,F,MS,h1,h2,h3,h4,h5,h6⟩:=H
  have:=h4 _ h3.1;omega)
 have nA:Up w (w.alloc (Y #[k,cl,v] 111)):=(AV w).alloc _;have hbx:=Ah w (Y #[k,cl,v] 111);obtain⟨W,hW⟩:=gX (w.alloc (Y #[k,cl,v] 111));rw[hW]at nA hbx;have HW:=I hW;have HU:=I nA;have nI:=I hbx;have b1:=cI hbx 1;have HKP:Hid (∀w2,Up w w2->ED w2 B h l s (N+9) (XG X w w2)/\Fr w w2 X):=I (λw2 u=>⟨(HH.up u).more J (λk hk=> .inl hk) (XG.ge HH.lt u.size HB),Fr.Bp u⟩);obtain⟨m,R,sz,F,MS,h1,h2,h3,h4,h5,h6⟩:=H;have nJ:=I (kF h R _ m s.by' cl W (h1.up nA).blk);have da:=I (Tl h R _ m s t W ht0 ht1 (h1.up nA).blk);clear hW nA hbx;by_cases hin:0<=cl/\cl<Cl l l.length;rotate_left
 .have e0:s.begin (Cl l l.length) 6 (Gs l) t k cl v=(6,s):=by unfold BS.begin;rw[AK hin]
  rw[e0];rw[DF hin]at nJ;clear h1 h2 h3 h4 h5 h6 e0 hin;go_enter Tryz.func85,Tryz.ntmps85;go_wp2_with fail;rw[HW];go_wp2_with fail;refine nJ.mono ?_;rintro e w2 ⟨rfl,rfl⟩
  go_wp2
  go_ret;exact⟨rfl,HKP _ HU⟩
 rw[Fi hin]at nJ;have hwf:=lG hin.1 (show cl<32768 from by have:=hfit.few;omega);obtain⟨bq,hbq⟩:=gX (s.busy t);obtain⟨bq1,bq2⟩:=bq;rw[hbq]at da;dsimp only at da;cases bq2
 rotate_left
 .have e0:s.begin (Cl l l.length) 6 (Gs l) t k cl v=(12,s):=by unfold BS.begin;rw[AI (Cw hin),hbq,AK rfl]
  rw[e0];clear h1 h2 h3 h4 h5 h6 e0 hin hbq;go_enter Tryz.func85,Tryz.ntmps85;go_wp2_with fail;rw[HW];go_wp2_with fail;refine nJ.mono ?_;rintro e w2 ⟨rfl,rfl⟩;go_wp2_with fail;refine da.mono ?_;rintro e w3 ⟨rfl,hu3⟩;have Hg:=I (HU.trans hu3);clear hu3
  go_wp2
  go_ret;exact⟨rfl,HKP _ Hg⟩
 obtain⟨c,hc⟩:=gX ((C9 s.u cl).getD (Gs l cl))
 have e0:s.begin (Cl l l.length) 6 (Gs l) t k cl v=eO (c.begin t k v).1 s {u:=Eh s.u cl (c.begin t k v).2,by':=λi=>if i=t.toNat then(true,cl)else s.by' i}:=by
  unfold BS.begin eO;rw[AI (Cw hin),hbq,AI Az,hc]
 have KH:=I (show BS.Good (s.begin (Cl l l.length) 6 (Gs l) t k cl v).2 from h6.begin _ _ _ _ _ _ _);obtain⟨er,hE1⟩:=gX ((c.begin t k v).1);obtain⟨c',hE2⟩:=gX ((c.begin t k v).2);rw[hE1,hE2]at e0;rw[e0]at KH|-;have oe:=I hE1;have HE2:=I hE2;clear e0 hE1 hE2;have HX:=I h3;have yz:=I h4;have EK:=I h5;have wS:=I h6;have HO:=I h1;have HC:=I h2;have wM:=I (h2.dom cl);have y6:=I hwf;have jQ:=I (show 0<=cl/\cl<FT l l.length from by rw[VW hfit.all hfit.few];exact hin);have HFT:=I hfit;clear h1 h2 h3 h4 h5 h6 hin hwf hbq;go_enter Tryz.func85,Tryz.ntmps85;go_wp2_with fail;rw[HW];go_wp2_with fail;refine nJ.mono ?_;rintro e w2 ⟨rfl,rfl⟩;go_wp2_with fail;refine da.mono ?_;rintro e w3 ⟨rfl,hu3⟩;have Hg:=I (HU.trans hu3);have HB3:=I ((hu3.block w.heap.size (by have:=nI.out;exact(gE this).1)).trans nI);have MJ:=I (HO.up (Hg.trans (AV w3).drew));have b1:=cI HB3 1;have hSS:V w3.drew h 2 (.map (some m))/\V w3.drew w 1 cl/\(Instr.lookup 144 (.map (some m)) cl true).run Tryz.prog w3.drew= .ok (.tuple #[Vc (F cl),.bool (F cl).isSome]) w3.drew:=⟨MJ.blk.k2,b1,MJ.map.O5 y6⟩;clear hu3;go_wp2_with fail;refine Br (S:=λw'=>V w' h 2 (.map (some m))/\V w' w 1 cl/\(Instr.lookup 144 (.map (some m)) cl true).run Tryz.prog w'= .ok (.tuple #[Vc (F cl),.bool (F cl).isSome]) w') Ay hSS (λhS0=>?_);clear hSS;refine tq 0 hS0 ?_;refine tq 1 hS0 ?_;refine tq 2 hS0 ?_;refine tq 3 hS0 ?_;refine tq 4 hS0 ?_;refine tq 5 hS0 ?_;refine tq 6 hS0 ?_;refine tq 7 hS0 ?_;refine tq 8 hS0 ?_;refine tq 9 hS0 ?_;refine tq 10 hS0 ?_;refine tq 11 hS0 ?_;refine CN Ay ?_ _
 try simp only[Act.put,DH,DI,DG,Ei,Ef,Ee]
 clear hS0;have wT:=I (Hg.trans (AV w3).drew);have HBD:=I (show w3.drew.heap[w.heap.size]?=some (.cells #[k,cl,v] 111)from HB3);clear MJ b1;generalize w3.drew=w4 at*;generalize hoF:F cl=oF at wM|-;have HoF:=I hoF;have HHC:=I hc;clear hoF hc;cases oF with
 |some g=>
  have zA:C9 s.u cl=some c:=by
   have h1:=wM.out;have h2:=HHC.out;cases hg:C9 s.u cl with
   |none=>rw[hg]at h1;cases h1
   |some d=>rw[hg]at h2;rw[<-h2];rfl
  have Km:=I (aa (N:=N) HO HC wT HoF zA);clear zA;unfold Vc;dsimp only;have rV:Hid (∀x,Ft g (MS cl) x->x≠w.heap.size):=I (λx hx e=>by have:=HC.out.lt HoF.out hx;omega);have QD:=I HBD.out;obtain⟨Vn,zB⟩:=gX MS;obtain⟨w5,V7⟩:=gX w4;have il:=I HC.out;rw[zB]at Km rV;rw[V7]at Km QD|-;clear zB V7;have b0:=cI QD 0;have b1:=cI QD 1;have b2:=cI QD 2;have OI:=I (Tj g g N c _ t k cl v w5 (Km.cs.cell cl g c Km.at' Km.u).1 (Km.cs.cell cl g c Km.at' Km.u).2 hN);rw[oe,HE2]at OI;have HGC:=I ((Km.cs.cell cl g c Km.at' Km.u).2.begin t k v);rw[HE2]at HGC;have uE:=I (show∀x,Ft g (Vn cl) x->x≠w.heap.size from λx hx e=>rV x hx e);go_wp2_with fail;refine OI.mono ?_;rintro e w6 ⟨rfl,ms',hc6,im⟩;by_cases her:er=0;rotate_left
  .have hst:=Qh c t k v (by rw[oe];exact her);rw[HE2]at hst;rw[hst]at hc6;have HR:=I (Km.fail im hc6 HX yz HB EK wS);have hne:(er !=0)=true:=by rw[Ol];exact her
   have HER:=I her;clear her hst hc6 im b0 b1 b2
   go_wp2
   go_ret;rw[Yf HER.out];exact⟨rfl,HR⟩
  .obtain⟨p0,p1⟩:=YW c t k v (by rw[oe];exact her);obtain⟨tn,rfl⟩:∃tn:Nat,t=tn:=⟨t.toNat,J⟩;have htn:tn<8:=J;subst her;rw[QU]at KH;rw[Gl]at KH;have bF:=(im.block w.heap.size (gE QD).1 (λe=>uE g (.inl rfl) e.symm) (λi hi e=>uE _ (.inr ⟨i,hi,e⟩) rfl)).trans QD;have wU:=I bF;have OJ:=I ((Km.o4 im).up (AV w6).drew);obtain⟨w7,hrun,wV,SG⟩:=OJ.store (show sz<maxLen from by unfold maxLen;have:=EK.out;omega) y6 g;have rX:=I (Km.done (w5:=w6.drew) (w6:=w7) im hc6 HGC HX yz HB EK htn (AV w6).drew SG wV KH w7 (AV w7));have Yq:=I wV;have Vo:=I (And.intro (rX.1.up (AV _).drew) (Fr.same rX.2 (Fr.Bp (X:=X) (AV _).drew)));have hmw:w.heap.size≠m:=λe=>by have:=HO.out.map.isLt;omega
   have wZ:=I (show w7.heap[w.heap.size]?=_ from(SG.block w.heap.size (gE bF).1 (λe=>hmw (by injection e))).trans bF);have hhw:w.heap.size≠h:=λe=>by have:=HO.out.blk.lt;omega
   clear hc6 im wV SG p0 p1;have c1:=cI wU 1;have hSS:V w6.drew h 2 (.map (some m))/\V w6.drew w 1 cl:=⟨OJ.blk.k2,c1⟩;clear b0 b1 b2 c1;go_wp2_with fail;refine Br (S:=λw'=>V w' h 2 (.map (some m))/\V w' w 1 cl) Ay hSS (λhS0=>?_);clear hSS;refine tq 0 hS0 ?_;refine tq 1 hS0 ?_;refine tq 2 hS0 ?_;refine tq 3 hS0 ?_;refine tq 4 hS0 ?_;refine tq 5 hS0 ?_;refine tq 6 hS0 ?_;refine tr 7 λK hK=>?_
   go_simp;have c1:=cI wZ 1;refine bk hK (And.intro Yq.blk.k2 c1) λhS1=>?_
   refine CN Ay ?_ _
   try simp only[Act.put,DH,DI,DG,Ei,Ef,Ee]
   clear hS0 hS1;go_wp2_with fail;have x0:=Yq.blk.on tn htn;have x1:=Yq.blk.at' tn htn;have fz:=Yq.blk.fz;have hi8:(tn:tyI)<8:=J;have hi0:(0:tyI)<=(tn:tyI):=J;refine Br (S:=λw'=>V w' w 1 cl) Ay c1 (λhS0=>?_);refine tq 0 hS0 ?_;refine tq 1 hS0 ?_;refine tq 2 hS0 ?_;refine tq 3 hS0 ?_;refine tq 4 hS0 ?_;refine tq 5 hS0 ?_;refine tq 6 hS0 ?_;refine tq 7 hS0 ?_;refine tr 8 λK hK=>?_
   go_simp;have c2:=(CI (w:=w7) (o:=1) (Hb w7 h (3+tn*2) true cl w.heap.size hhw)).trans c1;unfold st2 at Vo c2;refine bk hK c2 λhS1=>?_
   refine CN Ay ?_ _
   try simp only[Act.put,DH,DI,DG,Ei,Ef,Ee]
   clear hS0 hS1 x0 x1 fz
   go_wp2
   go_ret;rw[QU,Gl];exact⟨rfl,(Vo.1.more (A9 _) (λk hk=>hk) Vo.1.lt),Vo.2⟩
 |none=>
  have zA:Gs l cl=c:=by
   have h1:=wM.out;have h2:=HHC.out;cases hg:C9 s.u cl with
   |none=>rw[hg]at h2;exact h2
   |some d=>rw[hg]at h1;cases h1
  have ii:=I (fH l B h m R _ s.by' sz F cl w4 HFT.len (HO.up wT) jQ.1 jQ.2);rw[zA]at ii
  have wa:Do c N:=by
   rw[<-zA];unfold Gs;split<;>exact(Do.new _ _).more (DV _)
  have HGD0:=I wa;have AFd:=I (λ(w5:tyW) (g:tyN) (u5:Up w4 w5) (hge:w4.heap.size<=g) (hc5:CellIs w5 g g c (λ_=>sN))=>Z2 (N:=N) HO HC wT u5 HoF hge hc5 wa y6);have b1:=cI HBD 1;clear zA wa;unfold Vc;dsimp only;go_wp2_with fail;refine ii.mono ?_;rintro e w5 ⟨g,rfl,hge,hc5,OK⟩;have Km:=I (AFd w5 g OK hge hc5);have QD:=I ((OK.block w.heap.size (gE HBD).1).trans HBD)
  have AFe:Hid (∀x,Ft g (λ_=>Value.slice none 0 0) x->x≠w.heap.size):=I (λx hx e=>by
   have:=(gE HBD.out).1;rcases hx with rfl|⟨i,hi,e2⟩
   .omega
   .simp[Value.ownBlock]at e2)
  have hms:Ht MS cl (λ_=>Value.slice none 0 0) cl=λ_=>Value.slice none 0 0:=by unfold Ht;rw[AK rfl]
  obtain⟨Vn,zB⟩:=gX (Ht MS cl (λ_=>Value.slice none 0 0));have rV:Hid (∀x,Ft g (Vn cl) x->x≠w.heap.size):=I (by rw[<-zB,hms];exact AFe);rw[zB]at Km;clear zB hms hge hc5 OK b1;have b0:=cI QD 0;have b1:=cI QD 1;have b2:=cI QD 2;have OI:=I (Tj g g N c _ t k cl v w5 (Km.cs.cell cl g c Km.at' Km.u).1 (Km.cs.cell cl g c Km.at' Km.u).2 hN);rw[oe,HE2]at OI;have HGC:=I ((Km.cs.cell cl g c Km.at' Km.u).2.begin t k v);rw[HE2]at HGC;have uE:=I (show∀x,Ft g (Vn cl) x->x≠w.heap.size from λx hx e=>rV x hx e);go_wp2_with fail;refine OI.mono ?_;rintro e w6 ⟨rfl,ms',hc6,im⟩;by_cases her:er=0;rotate_left
  .have hst:=Qh c t k v (by rw[oe];exact her);rw[HE2]at hst;rw[hst]at hc6;have HR:=I (Km.fail im hc6 HX yz HB EK wS);have hne:(er !=0)=true:=by rw[Ol];exact her
   have HER:=I her;clear her hst hc6 im b0 b1 b2
   go_wp2
   go_ret;rw[Yf HER.out];exact⟨rfl,HR⟩
  .obtain⟨p0,p1⟩:=YW c t k v (by rw[oe];exact her);obtain⟨tn,rfl⟩:∃tn:Nat,t=tn:=⟨t.toNat,J⟩;have htn:tn<8:=J;subst her;rw[QU]at KH;rw[Gl]at KH;have bF:=(im.block w.heap.size (gE QD).1 (λe=>uE g (.inl rfl) e.symm) (λi hi e=>uE _ (.inr ⟨i,hi,e⟩) rfl)).trans QD;have wU:=I bF;have OJ:=I ((Km.o4 im).up (AV w6).drew);obtain⟨w7,hrun,wV,SG⟩:=OJ.store (show sz<maxLen from by unfold maxLen;have:=EK.out;omega) y6 g;have rX:=I (Km.done (w5:=w6.drew) (w6:=w7) im hc6 HGC HX yz HB EK htn (AV w6).drew SG wV KH w7 (AV w7));have Yq:=I wV;have Vo:=I (And.intro (rX.1.up (AV _).drew) (Fr.same rX.2 (Fr.Bp (X:=X) (AV _).drew)));have hmw:w.heap.size≠m:=λe=>by have:=HO.out.map.isLt;omega
   have wZ:=I (show w7.heap[w.heap.size]?=_ from(SG.block w.heap.size (gE bF).1 (λe=>hmw (by injection e))).trans bF);have hhw:w.heap.size≠h:=λe=>by have:=HO.out.blk.lt;omega
   clear hc6 im wV SG p0 p1;have c1:=cI wU 1;have hSS:V w6.drew h 2 (.map (some m))/\V w6.drew w 1 cl:=⟨OJ.blk.k2,c1⟩;clear b0 b1 b2 c1;go_wp2_with fail;refine Br (S:=λw'=>V w' h 2 (.map (some m))/\V w' w 1 cl) Ay hSS (λhS0=>?_);clear hSS;refine tq 0 hS0 ?_;refine tq 1 hS0 ?_;refine tq 2 hS0 ?_;refine tq 3 hS0 ?_;refine tq 4 hS0 ?_;refine tq 5 hS0 ?_;refine tq 6 hS0 ?_;refine tr 7 λK hK=>?_
   go_simp;have c1:=cI wZ 1;refine bk hK (And.intro Yq.blk.k2 c1) λhS1=>?_
   refine CN Ay ?_ _
   try simp only[Act.put,DH,DI,DG,Ei,Ef,Ee]
   clear hS0 hS1;go_wp2_with fail;have x0:=Yq.blk.on tn htn;have x1:=Yq.blk.at' tn htn;have fz:=Yq.blk.fz;have hi8:(tn:tyI)<8:=J;have hi0:(0:tyI)<=(tn:tyI):=J;refine Br (S:=λw'=>V w' w 1 cl) Ay c1 (λhS0=>?_);refine tq 0 hS0 ?_;refine tq 1 hS0 ?_;refine tq 2 hS0 ?_;refine tq 3 hS0 ?_;refine tq 4 hS0 ?_;refine tq 5 hS0 ?_;refine tq 6 hS0 ?_;refine tq 7 hS0 ?_;refine tr 8 λK hK=>?_
   go_simp;have c2:=(CI (w:=w7) (o:=1) (Hb w7 h (3+tn*2) true cl w.heap.size hhw)).trans c1;unfold st2 at Vo c2;refine bk hK c2 λhS1=>?_
   refine CN Ay ?_ _
   try simp only[Act.put,DH,DI,DG,Ei,Ef,Ee]
   clear hS0 hS1 x0 x1 fz
   go_wp2
   go_ret;rw[QU,Gl];exact⟨rfl,(Vo.1.more (A9 _) (λk hk=>hk) Vo.1.lt),Vo.2⟩
structure WK where
 B:Nat
 w1:World
 b:Nat
 g:Nat
 h:Nat
 n:Nat
 c1:Nat
 l:List SD
 ov:Value
 dv:Value
 pv:Nat->Value
 M:MD
def wF (K:WK)(drawn now:tyN):Nat->Value
 |0=>K.ov
 |1=>pT K.h
 |2=>BG K.g 0 K.n K.c1
 |3=>K.dv
 |4=>O drawn
 |_=>O now
def tL (th:N8)(pv va vl:tyV):Nat->Value
 |0=>pv
 |1=>O th.next
 |2=>vl
 |3=>va
 |4=>O th.acc.1
 |5=>O th.acc.2.1
 |6=>O th.acc.2.2
 |7=>O th.st
 |8=>O th.Bi
 |9=>O th.GD
 |_=> .bool th.CV
structure Th (W:tyW)(g t:tyN)(f:Nat->Value):Prop where
 cell:∀j,j<11->V W g (t*11+j) (f j)
theorem Th.keep(H:Th w g t f)(h:hSM w' w g):Th w' g t f:=⟨λj hj=>(Ak h).trans (H.cell j hj)⟩
theorem Th.set{f':Nat->Value}(H:Th w g t f)(hj:j<11)(v:tyV)(hf:∀i,i<11->f' i=if i=j then v else f i):Th (w.setCell (aD g (t*11+j)) v) g t f':=by
 refine⟨λi hi=>?_⟩;rw[hf i hi];by_cases e:i=j
 .subst e;rw[AK rfl];exact Ek _ _ _ (H.cell i hi)
 .rw[AI e];exact(Ck _ _ _ _ (by simp<;>omega)).trans (H.cell i hi)
theorem Th.other{t':tyN}(H:Th w g t f)(ht:t'≠t)(hj:j<11)(v:tyV):Th (w.setCell (aD g (t'*11+j)) v) g t f:=
 ⟨λi hi=>(Ck _ _ _ _ (by simp only[ne_eq,Addr.mk.injEq,P9,dT,not_and];omega)).trans (H.cell i hi)⟩
structure Wd (K:WK)(W:tyW)(S:WD)(N:tyN)(va vl:Nat->Value)(ow:Nat->Nat):Prop where
 n:S.n=K.n
 up:Below K.B K.w1 W
 Bw:K.B<=K.w1.heap.size
 ro:∀k,k<K.w1.heap.size->ow k=0->hSM W K.w1 k
 own:∀k,ow k≠0->K.B<=k/\k<W.heap.size
 ob:ow K.b=1
 og:ow K.g=2
 cb:∀j,j<6->V W K.b j (wF K S.drawn S.now j)
 fb:∀j,W.frozen? (aD K.b j)=false
 cg:∀t,t<K.n->Th W K.g t (tL (S.AU t) (K.pv t) (va t) (vl t))
 fg:∀j,W.frozen? (aD K.g j)=false
 ra:∀t,t<K.n->W.ownsRow K.B 3 1 (va t) (S.AU t).ans.length (Aj (S.AU t).ans)
 rl:∀t,t<K.n->W.ownsRow K.B 3 1 (vl t) (S.AU t).loc.length (Aj (S.AU t).loc)
 oa:∀t k,t<K.n->(va t).ownBlock=some k->ow k=4+2*t
 ol:∀t k,t<K.n->(vl t).ownBlock=some k->ow k=5+2*t
 bk:ED W K.B K.h K.l S.Dc N (λk=>ow k=3)
section
variable {K:WK}{W W':tyW}{S S':WD}{N N':tyN}{va vl:Nat->Value}{ow:Nat->Nat}
theorem Wd.sz(H:Wd K W S N va vl ow):K.B<=W.heap.size:=DB H.Bw H.up.size
theorem Wd.bt(H:Wd K W S N va vl ow):K.b<W.heap.size:=(H.own _ (by rw[H.ob];decide)).2
theorem Wd.gt(H:Wd K W S N va vl ow):K.g<W.heap.size:=(H.own _ (by rw[H.og];decide)).2
theorem Wd.bg(H:Wd K W S N va vl ow):K.b≠K.g:=λe=>by have h1:=H.ob;rw[e,H.og]at h1;cases h1
theorem Wd.keep(H:Wd K W S N va vl ow)(U:Below K.B W W')(hk:∀k,k<W.heap.size->ow k≠0->hSM W' W k)(hr:∀k,k<K.w1.heap.size->ow k=0->hSM W' W k):Wd K W' S N va vl ow where
 n:=H.n
 up:=H.up.trans U
 Bw:=H.Bw
 ro:=λk h1 h2=>(hr k h1 h2).trans (H.ro k h1 h2)
 own:=λk h=>⟨(H.own k h).1,B5 (H.own k h).2 U.size⟩
 ob:=H.ob
 og:=H.og
 cb:=λj hj=>(CI (hk _ H.bt (by rw[H.ob];decide))).trans (H.cb j hj)
 fb:=λj=>(C4 (hk _ H.bt (by rw[H.ob];decide))).trans (H.fb j)
 cg:=λt ht=>(H.cg t ht).keep (hk _ H.gt (by rw[H.og];decide))
 fg:=λj=>(C4 (hk _ H.gt (by rw[H.og];decide))).trans (H.fg j)
 ra:=λt ht=>AS (H.ra t ht) λk e=>hk k ((H.ra t ht).lt k e).2 (by rw[H.oa t k ht e];omega)
 rl:=λt ht=>AS (H.rl t ht) λk e=>hk k ((H.rl t ht).lt k e).2 (by rw[H.ol t k ht e];omega)
 oa:=H.oa
 ol:=H.ol
 bk:=H.bk.keep U.size λk hx=>hk k (H.bk.lt k hx).2 (by rw[hx];decide)
theorem Wd.grow(H:Wd K W S N va vl ow)(U:Up W W'):Wd K W' S N va vl ow:=
 H.keep (KX U H.sz) (λk hk _=>U.block k hk) (λk hk _=>U.block k (B5 hk H.up.size))
theorem Wd.Dc(H:Wd K W S N va vl ow){B':BS}(F:Fr W W' (λk=>ow k=3))(BM:ED W' K.B K.h K.l B' N' (XG (λk=>ow k=3) W W')):
  Wd K W' {S with Dc:=B'} N' va vl (λk=>if W.heap.size<=k/\k<W'.heap.size then 3 else ow k):=by
 have hnew:∀k,k<W.heap.size->(if W.heap.size<=k/\k<W'.heap.size then 3 else ow k)=ow k:=λk hk=>AI J
 have hX:(XG (λk=>ow k=3) W W')=λk=>(if W.heap.size<=k/\k<W'.heap.size then 3 else ow k)=3:=by
  funext k
  unfold XG;by_cases e:W.heap.size<=k/\k<W'.heap.size
  .simp[e]
  .rw[AI e];simp[e]
 have hU:Below K.B W W':=⟨F.os,F.tape,F.output,F.size,λk hk=>F.block k (B5 hk H.sz) (λe=>by have:=(H.own k (by rw[e];decide)).1;omega)⟩;have hk:∀k,k<W.heap.size->ow k≠3->hSM W' W k:=λk h1 h2=>F.block k h1 h2
 refine⟨H.n,H.up.trans hU,H.Bw,λk h1 h2=>?_,λk h=>?_,?_,?_,λj hj=>?_,λj=>?_,λt ht=>?_,λj=>?_,λt ht=>?_,λt ht=>?_,λt k ht e=>?_,λt k ht e=>?_,?_⟩
 .have h3:k<W.heap.size:=B5 h1 H.up.size;have h2:(if W.heap.size<=k/\k<W'.heap.size then 3 else ow k)=0:=h2;rw[hnew k h3]at h2;exact(hk k h3 (by rw[h2];decide)).trans (H.ro k h1 h2)
 .have h:(if W.heap.size<=k/\k<W'.heap.size then 3 else ow k)≠0:=h;by_cases e:W.heap.size<=k/\k<W'.heap.size
  .exact⟨DB H.sz e.1,e.2⟩
  .rw[AI e]at h;exact⟨(H.own k h).1,B5 (H.own k h).2 F.size⟩
 .exact(hnew _ H.bt).trans H.ob
 .exact(hnew _ H.gt).trans H.og
 .exact(CI (hk _ H.bt (by rw[H.ob];decide))).trans (H.cb j hj)
 .exact(C4 (hk _ H.bt (by rw[H.ob];decide))).trans (H.fb j)
 .exact(H.cg t ht).keep (hk _ H.gt (by rw[H.og];decide))
 .exact(C4 (hk _ H.gt (by rw[H.og];decide))).trans (H.fg j)
 .exact AS (H.ra t ht) λk e=>hk k ((H.ra t ht).lt k e).2 (by rw[H.oa t k ht e];omega)
 .exact AS (H.rl t ht) λk e=>hk k ((H.rl t ht).lt k e).2 (by rw[H.ol t k ht e];omega)
 .exact(hnew k ((H.ra t ht).lt k e).2).trans (H.oa t k ht e)
 .exact(hnew k ((H.rl t ht).lt k e).2).trans (H.ol t k ht e)
 .rw[<-hX];exact BM
theorem Wd.zm(H:Wd K W S N va vl ow)(ht:t<K.n)(hj:j<11)(v:tyV){th:N8}(hf:∀i,i<11->tL th (K.pv t) (va t) (vl t) i=if i=j then v else tL (S.AU t) (K.pv t) (va t) (vl t) i)(e1:th.ans=(S.AU t).ans)(e2:th.loc=(S.AU t).loc):
  Wd K (W.setCell (aD K.g (t*11+j)) v) (S.put t th) N va vl ow:=by
 have hk:∀k,k≠K.g->hSM (W.setCell (aD K.g (t*11+j)) v) W k:=λk hne=>BF W ⟨K.g,t*11+j,none⟩ v k hne
 have hg:=(H.own K.g (by rw[H.og];decide)).1;refine⟨H.n,H.up.trans ((Hx K.B W).setCell (p:=aD K.g (t*11+j)) hg v),H.Bw,λk h1 h2=>(hk k (λe=>by rw[e,H.og]at h2;cases h2)).trans (H.ro k h1 h2),λk h=>by simpa using H.own k h,H.ob,H.og,λi hi=>(CI (hk _ H.bg)).trans (H.cb i hi),λi=>(C4 (hk _ H.bg)).trans (H.fb i),λi hi=>?_,λi=>by simpa[go_sem]using H.fg i,λi hi=>?_,λi hi=>?_,H.oa,H.ol,H.bk.keep Az λk hx=>hk k (λe=>by rw[e,H.og]at hx;cases hx)⟩
 .by_cases e:i=t
  .subst e;rw[BE];exact(H.cg i hi).set hj v hf
  .rw[BT _ _ e];exact(H.cg i hi).other (Cz e) hj v
 .have:((S.put t th).AU i).ans=(S.AU i).ans:=by
   by_cases e:i=t
   .subst e;rw[BE,e1]
   .rw[BT _ _ e]
  rw[this];exact AS (H.ra i hi) λk e=>hk k (λe2=>by have:=H.oa i k hi e;rw[e2,H.og]at this;omega)
 .have:((S.put t th).AU i).loc=(S.AU i).loc:=by
   by_cases e:i=t
   .subst e;rw[BE,e2]
   .rw[BT _ _ e]
  rw[this];exact AS (H.rl i hi) λk e=>hk k (λe2=>by have:=H.ol i k hi e;rw[e2,H.og]at this;omega)
theorem Wd.AAC(H:Wd K W S N va vl ow)(hj:j<6)(v:tyV){dr nw:tyN}(hf:∀i,i<6->wF K dr nw i=if i=j then v else wF K S.drawn S.now i):
  Wd K (W.setCell (aD K.b j) v) {S with drawn:=dr,now:=nw} N va vl ow:=by
 have hk:∀k,k≠K.b->hSM (W.setCell (aD K.b j) v) W k:=λk hne=>BF W ⟨K.b,j,none⟩ v k hne
 have hb:=(H.own K.b (by rw[H.ob];decide)).1;refine⟨H.n,H.up.trans ((Hx K.B W).setCell (p:=aD K.b j) hb v),H.Bw,λk h1 h2=>(hk k (λe=>by rw[e,H.ob]at h2;cases h2)).trans (H.ro k h1 h2),λk h=>by simpa using H.own k h,H.ob,H.og,λi hi=>?_,λi=>by simpa[go_sem]using H.fb i,λi hi=>(H.cg i hi).keep (hk _ H.bg.symm),λi=>(C4 (hk _ H.bg.symm)).trans (H.fg i),λi hi=>?_,λi hi=>?_,H.oa,H.ol,H.bk.keep Az λk hx=>hk k (λe=>by rw[e,H.ob]at hx;cases hx)⟩
 .show _=some (wF K dr nw i);rw[hf i hi];by_cases e:i=j
  .subst e;rw[AK rfl];exact Ek _ _ _ (H.cb i hi)
  .rw[AI e];exact(Ck _ _ _ _ (by simp<;>omega)).trans (H.cb i hi)
 .exact AS (H.ra i hi) λk e=>hk k (λe2=>by have:=H.oa i k hi e;rw[e2,H.ob]at this;omega)
 .exact AS (H.rl i hi) λk e=>hk k (λe2=>by have:=H.ol i k hi e;rw[e2,H.ob]at this;omega)
theorem Wd.I4(H:Wd K W S N va vl ow)(ht:t<K.n)(hv:W.ownsRow K.B 3 1 v l.length (Aj l))(hnew:∀k,v.ownBlock=some k->ow k=0/\K.w1.heap.size<=k):
  Wd K (W.setCell (aD K.g (t*11+2)) v) (S.put t {S.AU t with loc:=l}) N va (λi=>if i=t then v else vl i) (λk=>if v.ownBlock=some k then 5+2*t else ow k):=by
 have hk:∀k,k≠K.g->hSM (W.setCell (aD K.g (t*11+2)) v) W k:=λk hne=>BF W ⟨K.g,t*11+2,none⟩ v k hne
 have hg:=(H.own K.g (by rw[H.og];decide)).1;have hold:∀k,ow k≠0->(if v.ownBlock=some k then 5+2*t else ow k)=ow k:=λk h=>AI (λe=>h (hnew k e).1)
 have hX:(λk=>ow k=3)=λk=>(if v.ownBlock=some k then 5+2*t else ow k)=3:=by
  funext k
  by_cases e:v.ownBlock=some k
  .rw[AK e,(hnew k e).1];simp;omega
  .rw[AI e]
 refine⟨H.n,H.up.trans ((Hx K.B W).setCell (p:=aD K.g (t*11+2)) hg v),H.Bw,λk h1 h2=>?_,λk h=>?_,(hold _ (by rw[H.ob];decide)).trans H.ob,(hold _ (by rw[H.og];decide)).trans H.og,λi hi=>(CI (hk _ H.bg)).trans (H.cb i hi),λi=>(C4 (hk _ H.bg)).trans (H.fb i),λi hi=>?_,λi=>by simpa[go_sem]using H.fg i,λi hi=>?_,λi hi=>?_,λi k hi e=>(hold k (by rw[H.oa i k hi e];omega)).trans (H.oa i k hi e),λi k hi e=>?_,?_⟩
 .have h2:(if v.ownBlock=some k then 5+2*t else ow k)=0:=h2;by_cases e:v.ownBlock=some k
  .have:=(hnew k e).2;omega
  .rw[AI e]at h2;exact(hk k (λe=>by rw[e,H.og]at h2;cases h2)).trans (H.ro k h1 h2)
 .have h:(if v.ownBlock=some k then 5+2*t else ow k)≠0:=h;by_cases e:v.ownBlock=some k
  .simpa using hv.lt k e
  .rw[AI e]at h;simpa using H.own k h
 .by_cases e:i=t
  .subst e;rw[BE];have:=(H.cg i hi).set (f':=tL {S.AU i with loc:=l} (K.pv i) (va i) v) (j:=2) AQ v (λj hj=>by match j,hj with|0,_|1,_|2,_|3,_|4,_|5,_|6,_|7,_|8,_|9,_|10,_=>rfl);simp only[Ke];exact this
  .rw[BT _ _ e];simp only[AI e];exact(H.cg i hi).other (Cz e) AQ v
 .have:((S.put t {S.AU t with loc:=l}).AU i).ans=(S.AU i).ans:=by
   by_cases e:i=t
   .subst e;rw[BE]
   .rw[BT _ _ e]
  rw[this];exact AS (H.ra i hi) λk e=>hk k (λe2=>by have:=H.oa i k hi e;rw[e2,H.og]at this;omega)
 .by_cases e:i=t
  .subst e;rw[BE];simp only[Ke];exact AS hv λk e=>hk k (λe2=>by have:=(hnew k e).1;rw[e2,H.og]at this;cases this)
  .rw[BT _ _ e];simp only[AI e];exact AS (H.rl i hi) λk e=>hk k (λe2=>by have:=H.ol i k hi e;rw[e2,H.og]at this;omega)
 .by_cases e2:i=t
  .subst e2;simp only[Ke]at e;exact AK e
  .simp only[AI e2]at e;exact(hold k (by rw[H.ol i k hi e];omega)).trans (H.ol i k hi e)
 .rw[<-hX];exact H.bk.keep Az λk hx=>hk k (λe=>by rw[e,H.og]at hx;cases hx)
theorem Wd.AAQ(H:Wd K W S N va vl ow)(ht:t<K.n):
  Wd K (W.setCell (aD K.g (t*11+3)) sN) (S.put t {S.AU t with ans:=[]}) N (λi=>if i=t then sN else va i) vl ow:=by
 have hk:∀k,k≠K.g->hSM (W.setCell (aD K.g (t*11+3)) sN) W k:=λk hne=>BF W ⟨K.g,t*11+3,none⟩ _ k hne
 have hg:=(H.own K.g (by rw[H.og];decide)).1;refine⟨H.n,H.up.trans ((Hx K.B W).setCell (p:=aD K.g (t*11+3)) hg _),H.Bw,λk h1 h2=>(hk k (λe=>by rw[e,H.og]at h2;cases h2)).trans (H.ro k h1 h2),λk h=>by simpa using H.own k h,H.ob,H.og,λi hi=>(CI (hk _ H.bg)).trans (H.cb i hi),λi=>(C4 (hk _ H.bg)).trans (H.fb i),λi hi=>?_,λi=>by simpa[go_sem]using H.fg i,λi hi=>?_,λi hi=>?_,λi k hi e=>?_,H.ol,H.bk.keep Az λk hx=>hk k (λe=>by rw[e,H.og]at hx;cases hx)⟩
 .by_cases e:i=t
  .subst e;rw[BE];simp only[Ke];exact(H.cg i hi).set (f':=tL {S.AU i with ans:=[]} (K.pv i) sN (vl i)) (j:=3) AQ _ (λj hj=>by match j,hj with|0,_|1,_|2,_|3,_|4,_|5,_|6,_|7,_|8,_|9,_|10,_=>rfl)
  .rw[BT _ _ e];simp only[AI e];exact(H.cg i hi).other (Cz e) AQ _
 .by_cases e:i=t
  .subst e;rw[BE];simp only[Ke];exact YN _ _ _ _
  .rw[BT _ _ e];simp only[AI e];exact AS (H.ra i hi) λk e=>hk k (λe2=>by have:=H.oa i k hi e;rw[e2,H.og]at this;omega)
 .have:((S.put t {S.AU t with ans:=[]}).AU i).loc=(S.AU i).loc:=by
   by_cases e:i=t
   .subst e;rw[BE]
   .rw[BT _ _ e]
  rw[this];exact AS (H.rl i hi) λk e=>hk k (λe2=>by have:=H.ol i k hi e;rw[e2,H.og]at this;omega)
 .by_cases e2:i=t
  .subst e2;simp only[Ke]at e;cases e
  .simp only[AI e2]at e;exact H.oa i k hi e
theorem Wd.zv{W1:tyW}(H:Wd K W S N va vl ow)(ht:t<K.n){g1 cap:tyN}(G:W.grownBy W1 (va t).ownBlock)(AE:W1.ownsRow K.B 3 1 (BG g1 0 ((S.AU t).ans.length+1) cap) ((S.AU t).ans.length+1) (Aj (S.AU t).ans++[.int .i64 x]))(hat:(va t).ownBlock=some g1\/W.heap.size<=g1):
  V W1 K.g (t*11+3) (va t)/\W1.frozen? (aD K.g (t*11+3))=false/\
  Wd K (W1.setCell (aD K.g (t*11+3)) (BG g1 0 ((S.AU t).ans.length+1) cap)) (S.put t {S.AU t with ans:=(S.AU t).ans++[x]}) N (λi=>if i=t then BG g1 0 ((S.AU t).ans.length+1) cap else va i) vl (λk=>if k=g1 then 4+2*t else ow k):=by
 have hg:=(H.own K.g (by rw[H.og];decide)).1;have hk1:∀k,k<W.heap.size->ow k≠4+2*t->hSM W1 W k:=λk hk hne=>G.block k hk (λe=>hne (H.oa t k ht e.symm))
 have AFf:∀k,k<W.heap.size->ow k=0->hSM W1 W k:=λk hk h0=>hk1 k hk (by rw[h0];omega)
 have hkk:∀k,k≠K.g->hSM (W1.setCell (aD K.g (t*11+3)) (BG g1 0 ((S.AU t).ans.length+1) cap)) W1 k:=λk hne=>BF W1 ⟨K.g,t*11+3,none⟩ _ k hne
 have hgg:=hk1 K.g H.gt (by rw[H.og];omega)
 have hg1:∀k,k=g1->ow k=4+2*t\/W.heap.size<=k:=λk e=>by
  subst e;exact hat.imp (H.oa t k ht) id
 have hold:∀k,ow k≠0->(if k=g1 then 4+2*t else ow k)=ow k:=λk h=>by
  by_cases e:k=g1
  .rw[AK e];rcases hg1 k e with q|q
   .exact q.symm
   .have:=(H.own k h).2;omega
  .exact AI e
 have hX:(λk=>ow k=3)=λk=>(if k=g1 then 4+2*t else ow k)=3:=by
  funext k
  by_cases e:k=g1
  .rw[AK e];rcases hg1 k e with q|q
   .rw[q]
   .have h0:ow k=0:=by
     rcases Pf (ow k)with h|h
     .exact h
     .have:=(H.own k J).2;omega
    rw[h0];simp;omega
  .rw[AI e]
 have hB:Below K.B W W1:=grownBy_below G H.sz (DS (H.ra t ht));have hsz:(W1.setCell (aD K.g (t*11+3)) (BG g1 0 ((S.AU t).ans.length+1) cap)).heap.size=W1.heap.size:=Az;refine⟨(CI hgg).trans ((H.cg t ht).cell 3 AQ),(C4 hgg).trans (H.fg _),H.n,(H.up.trans hB).setCell (p:=aD K.g (t*11+3)) hg _,H.Bw,λk h1 h2=>?_,λk h=>?_,(hold _ (by rw[H.ob];decide)).trans H.ob,(hold _ (by rw[H.og];decide)).trans H.og,λi hi=>?_,λi=>?_,λi hi=>?_,λi=>?_,λi hi=>?_,λi hi=>?_,λi k hi e=>?_,λi k hi e=>(hold k (by rw[H.ol i k hi e];omega)).trans (H.ol i k hi e),?_⟩
 .have h2:(if k=g1 then 4+2*t else ow k)=0:=h2;by_cases e:k=g1
  .rw[AK e]at h2;omega
  .rw[AI e]at h2;exact(hkk k (λe=>by rw[e,H.og]at h2;cases h2)).trans ((AFf k (B5 h1 H.up.size) h2).trans (H.ro k h1 h2))
 .have h:(if k=g1 then 4+2*t else ow k)≠0:=h;rw[hsz];by_cases e:k=g1
  .have:=AE.lt k (by rw[e];rfl);exact this
  .rw[AI e]at h;exact⟨(H.own k h).1,B5 (H.own k h).2 G.size⟩
 .exact(CI ((hkk _ H.bg).trans (hk1 _ H.bt (by rw[H.ob];omega)))).trans (H.cb i hi)
 .exact(C4 ((hkk _ H.bg).trans (hk1 _ H.bt (by rw[H.ob];omega)))).trans (H.fb i)
 .by_cases e:i=t
  .subst e;rw[BE];simp only[Ke];exact((H.cg i hi).keep hgg).set (f':=tL {S.AU i with ans:=(S.AU i).ans++[x]} (K.pv i) (BG g1 0 ((S.AU i).ans.length+1) cap) (vl i)) (j:=3) AQ _ (λj hj=>by match j,hj with|0,_|1,_|2,_|3,_|4,_|5,_|6,_|7,_|8,_|9,_|10,_=>rfl)
  .rw[BT _ _ e];simp only[AI e];exact((H.cg i hi).keep hgg).other (Cz e) AQ _
 .have:=(C4 (o:=i) hgg).trans (H.fg i);simpa[go_sem]using this
 .by_cases e:i=t
  .subst e;rw[BE];simp only[Ke];have e1:((S.AU i).ans++[x]).length=(S.AU i).ans.length+1:=Az;have e2:Aj ((S.AU i).ans++[x])=Aj (S.AU i).ans++[.int .i64 x]:=by unfold Aj;simp
   show World.ownsRow _ _ _ _ _ ((S.AU i).ans++[x]).length (Aj ((S.AU i).ans++[x]));rw[e1,e2];refine AS AE λk e=>hkk k (λe2=>?_)
   have e3:k=g1:=by cases e;rfl
   rcases hg1 k e3 with q|q
   .rw[e2,H.og]at q;omega
   .have:=H.gt;omega
  .rw[BT _ _ e];simp only[AI e];exact AS (H.ra i hi) λk e3=>(hkk k (λe2=>by have:=H.oa i k hi e3;rw[e2,H.og]at this;omega)).trans (hk1 k ((H.ra i hi).lt k e3).2 (by rw[H.oa i k hi e3];omega))
 .have:((S.put t {S.AU t with ans:=(S.AU t).ans++[x]}).AU i).loc=(S.AU i).loc:=by
   by_cases e:i=t
   .subst e;rw[BE]
   .rw[BT _ _ e]
  rw[this];exact AS (H.rl i hi) λk e3=>(hkk k (λe2=>by have:=H.ol i k hi e3;rw[e2,H.og]at this;omega)).trans (hk1 k ((H.rl i hi).lt k e3).2 (by rw[H.ol i k hi e3];omega))
 .by_cases e2:i=t
  .subst e2;simp only[Ke]at e;have e3:k=g1:=by cases e;rfl
   exact AK e3
  .simp only[AI e2]at e;exact(hold k (by rw[H.oa i k hi e];omega)).trans (H.oa i k hi e)
 .rw[<-hX];exact H.bk.keep (by rw[hsz];exact G.size) λk hx=>(hkk k (λe=>by rw[e,H.og]at hx;cases hx)).trans (hk1 k (H.bk.lt k hx).2 (by rw[hx];omega))
end
theorem G4(b g n c1 t:tyN)(w:tyW)(h2:V w b 2 (BG g 0 n c1))(ht:t<n)(hn:n<=8)(hc:n<=c1/\c1<=9223372036854775807):Calls Tryz.prog 54 #[pT b,t] w λe w'=>e=BA (.pointer (some (aD g (t*11))))/\w'=w:=by
 have h0:(0:tyI)<=(t:tyI):=J;have h1:(t:tyI)<(n:tyI):=J;go_enter Tryz.func54,Tryz.ntmps54
 go_wp2
 go_ret;exact⟨rfl,rfl⟩
theorem lg(d nd:tyN)(h:d<nd)(hn:nd<=64):IntKind.i64.wrap ((d:tyI)+1)=((d+1:tyN):tyI)/\((d+1:tyN):tyI).tmod (nd:tyI)=(((d+1)%nd:tyN):tyI)/\(nd=0)=False:=by
 have e:(((d+1)%nd:tyN):tyI)=((d+1:tyN):tyI).tmod (nd:tyI):=by simp[Int.tmod]
 refine⟨?_,e.symm,by simp;omega⟩;rw[qH _ J J];omega
structure QN (K:WK)(W:tyW):Prop where
 few:K.M.draws.length<=64
 row:∃A c,K.dv=AR A K.M.draws.length c/\Row W A K.M.draws.length (Bl K.M.draws)/\(A=none->c=0)/\K.M.draws.length<=c/\c<=9223372036854775807
theorem Fr.set1{w1:tyW}{b j:tyN}(u:Up w w1)(v:tyV)(X:Nat->Prop)(hX:X b:=by rfl):Fr w (w1.setCell (aD b j) v) X:=
 ⟨u.os,u.tape,u.output,by simpa using u.size,λk hk hn=>(BF w1 ⟨b,j,none⟩ v k (λe=>hn (by rw[show k=b from e];exact hX))).trans (u.block k hk)⟩
theorem fF{Z:WK}{W:tyW}{S:WD}{N:tyN}{va vl:Nat->Value}{ow:Nat->Nat}(H:Wd Z W S N va vl ow)(hD:QN Z W)(t:tyN)(hdr:Z.M.draws.length=0\/S.drawn<Z.M.draws.length):
  Calls Tryz.prog 56 #[pT Z.b,.agg #[O (S.AU t).acc.1,O (S.AU t).acc.2.1,O (S.AU t).acc.2.2]] W λe w'=>e=BA (O (EP Z.M t S))/\Wd Z w' {S with drawn:=Iw Z.M t S} N va vl ow/\Fr W w' (λk=>k=Z.b):=by
 obtain⟨A,c,hdv,hrow,hnil,hle,hle2⟩:=hD.row;have Yp:=hD.few;have b3:V W Z.b 3 (AR A Z.M.draws.length c):=by rw[<-hdv];exact H.cb 3 AQ
 have b4:V W Z.b 4 S.drawn:=H.cb 4 AQ;have f4:=H.fb 4;have hbl:=AJ b3;obtain⟨k0,hk0⟩:=gX ((S.AU t).acc.1);obtain⟨k1,hk1⟩:=gX ((S.AU t).acc.2.1);obtain⟨k2,hk2⟩:=gX ((S.AU t).acc.2.2);have hu:Up W (W.alloc (Y #[k0,k1,k2] 111)):=(AV W).alloc _;have HH:=I (H.grow hu);have HU:=I hu;rw[hk0,hk1,hk2];by_cases hq:k0≠1\/Z.M.draws.length=0
 .have e1:EP Z.M t S=0:=by unfold EP;rw[hk0,AK hq]
  have e2:Iw Z.M t S=S.drawn:=by unfold Iw;rw[hk0,AK hq]
  rw[e1,e2];by_cases hk:k0=1
  .subst hk;have hl0:Z.M.draws.length=0:=J;rw[hl0]at b3;clear hdr hrow hdv hle Yp e1 e2 hq hk0 hk1 hk2 hD H hu;go_enter Tryz.func56,Tryz.ntmps56
   go_wp2
   go_ret;exact⟨rfl,HH,Fr.Bp HU⟩
  .have e0:(k0 !=1)=true:=by rw[Ol];exact hk
   clear hdr hrow hdv hle Yp e1 e2 hq hk0 hk1 hk2 hD H hu;go_enter Tryz.func56,Tryz.ntmps56
   go_wp2
   go_ret;exact⟨rfl,HH,Fr.Bp HU⟩
 .have hk:k0=1:=J;have hl:S.drawn<Z.M.draws.length:=J;subst hk;have e1:EP Z.M t S=Z.M.draws.getD S.drawn 0:=by unfold EP;rw[hk0,AI hq]
  have e2:Iw Z.M t S=(S.drawn+1)%Z.M.draws.length:=by unfold Iw;rw[hk0,AI hq]
  rw[e1,e2];obtain⟨bb,off,hA,hcell⟩:=hrow S.drawn hl;subst hA;obtain⟨nd,hnd⟩:=gX Z.M.draws.length;obtain⟨d,hd⟩:=gX S.drawn;obtain⟨dv,wg⟩:=gX (Z.M.draws.getD d 0)
  have hcell:V W bb (off+d) dv:=by
   rw[<-wg,<-hd];exact hcell
  rw[hnd,hd]at hl;rw[hd]at b4;rw[hnd]at b3 Yp hle|-;rw[hd,wg];have hb4:=I (And.intro b4 f4)
  have hS:V (W.alloc (Y #[O 1,k1,k2] 111)) Z.b 3 (BG bb off nd c)/\V (W.alloc (Y #[O 1,k1,k2] 111)) Z.b 4 (O d)/\V (W.alloc (Y #[O 1,k1,k2] 111)) bb (off+d) dv:=
   ⟨(hu.cell (p:=aD Z.b 3) hbl).trans b3,(hu.cell (p:=aD Z.b 4) hbl).trans b4,(hu.cell (p:=aD bb (off+d)) (AJ hcell)).trans hcell⟩
  have HS:=I hS;have hi0:(0:tyI)<=(d:tyI):=J;have hi1:(d:tyI)<(nd:tyI):=J;have hn0:((nd:tyI)==0)=false:=by rw[Dy];omega
  have hwm:=lg d nd hl Yp;obtain⟨hw1,hmod,hnz⟩:=hwm;have HZ:=I (λ(W':tyW) (u:Up (W.alloc (Y #[O 1,k1,k2] 111)) W')=>(H.grow (hu.trans u)).AAC (j:=4) AQ (O ((d+1)%nd:tyN)) (dr:=(d+1)%nd) (nw:=S.now) (λi hi=>by match i,hi with|0,_|1,_|2,_|3,_|4,_|5,_=>rfl));have HFz:=I (λj=>H.fb j);clear hdr hrow hdv hnil hle2 e1 e2 hq hk0 hk1 hk2 hD hu hnd hd wg hcell hS H f4 Yp b3 b4 HH hle;generalize(d+1)%nd=d' at*;have hbb:=I hbl;obtain⟨d1,hd1⟩:=gX ((d+1:tyN):tyI);rw[hd1]at hw1 hmod;clear hd1;go_enter Tryz.func56,Tryz.ntmps56;go_upto_region 1 with fail;have hb1:=Ah W (Y #[O 1,k1,k2] 111);have c0:=cI hb1 0;have ij:=((AV W).alloc (Y #[O 1,k1,k2] 111)).frozen (p:=aD Z.b 4) hbb.out;have rU:=I (ij.trans (HFz 4));clear hb1 ij;generalize(W.alloc (Y #[O 1,k1,k2] 111))=W1 at*;obtain⟨s3,s4,sd⟩:=HS.out;go_upto_region 3 with fail;go_quiet(fail);rename_i nq;go_upto_region 4 with fail;have Gy:(W1.drewN nq).drew.cell? (aD Z.b 3)=SY (BG bb off nd c)/\(W1.drewN nq).drew.cell? (aD Z.b 4)=SY (O d):=⟨s3,s4⟩;have wh:=I (show(W1.drewN nq).drew.frozen? (aD Z.b 4)=false from rU);have Kr:=I (show Up W1 (W1.drewN nq).drew from((AV W1).drewN nq).drew);generalize W1.drewN nq=W2 at*;clear s3 s4 sd rU c0;obtain⟨g3,g4⟩:=Gy;have g5:=wh.out;clear wh;have ME:=I (HU.trans Kr)
  go_region_law (fail)
  all_goals
   clear g3 g4 g5
   go_wp2
   go_ret;exact⟨rfl,HZ _ Kr,Fr.set1 ME _ _⟩
structure bV (Z:WK):Prop where
 n8:Z.n<=8
 cap:Z.n<=Z.c1/\Z.c1<=9223372036854775807
 fit:Fit Z.l
 many:Z.M.many=Cl Z.l Z.l.length
 fresh:Z.M.fresh=Gs Z.l
theorem Zs{many er:tyI}{mk:Int->CS}{s:BS}{t k cl v:tyI}(h:(s.begin many er mk t k cl v).1≠0):(s.begin many er mk t k cl v).2=s:=by
 unfold BS.begin at h|-;split
 .rfl
 split
 .rfl
 split
 .rfl
 .rename_i h1 h2 h3;rw[AI h1,AI h2,AI h3]at h;exact absurd rfl h
theorem Rq{Z:WK}{W:tyW}{S:WD}{N:tyN}{va vl:Nat->Value}{ow:Nat->Nat}(H:Wd Z W S N va vl ow)(hZ:bV Z)(ht:t<Z.n)(hN:N<=90000):
  Calls Tryz.prog 58 #[pT Z.b,t] W λe w'=>e=BA (.tuple #[])/\∃SI,Wd Z w' (Cb Z.M t S) (N+9) va vl SI/\(∀k,k<W.heap.size->SI k=ow k)/\∀k,k<W.heap.size->ow k≠3->k≠Z.g->hSM w' W k:=by
 have HH:=I (H.grow (AV W).drew);have HB:=I (ZL Z.l Z.B Z.h N S.Dc (λk=>ow k=3) t (S.AU t).acc.1 (S.AU t).acc.2.1 (S.AU t).acc.2.2 W.drew hZ.fit J (by have:=hZ.n8;omega) HH.bk hN);have UO:Ma Z.M t S=S.Dc.begin (Cl Z.l Z.l.length) 6 (Gs Z.l) t (S.AU t).acc.1 (S.AU t).acc.2.1 (S.AU t).acc.2.2:=by unfold Ma;rw[hZ.many,hZ.fresh]
 have hsame:=I (@Zs (Cl Z.l Z.l.length) 6 (Gs Z.l) S.Dc t (S.AU t).acc.1 (S.AU t).acc.2.1 (S.AU t).acc.2.2);have hBS:=I (show Cb Z.M t S=_ from by unfold Cb;rw[UO]);generalize S.Dc.begin (Cl Z.l Z.l.length) 6 (Gs Z.l) t (S.AU t).acc.1 (S.AU t).acc.2.1 (S.AU t).acc.2.2=u at*;obtain⟨er,u'⟩:=u;dsimp only at HB hsame hBS;have b2:V W Z.b 2 (BG Z.g 0 Z.n Z.c1):=H.cb 2 AQ
 have hS:V W.drew Z.b 1 (pT Z.h)/\V W.drew Z.g (t*11+4) (O (S.AU t).acc.1)/\V W.drew Z.g (t*11+5) (O (S.AU t).acc.2.1)/\V W.drew Z.g (t*11+6) (O (S.AU t).acc.2.2):=
  ⟨HH.cb 1 AQ,(HH.cg t ht).cell 4 AQ,(HH.cg t ht).cell 5 AQ,(HH.cg t ht).cell 6 AQ⟩
 have h0:(0:tyI)<=(t:tyI):=J;have h1:(t:tyI)<(Z.n:tyI):=J;have hcap:=hZ.cap;have HT:=I ht;clear H hN UO hZ ht;go_enter Tryz.func58,Tryz.ntmps58;go_wp2_with fail;clear b2;refine Br (S:=λw'=>V w' Z.b 1 (pT Z.h)/\V w' Z.g (t*11+4) (O (S.AU t).acc.1)/\V w' Z.g (t*11+5) (O (S.AU t).acc.2.1)/\V w' Z.g (t*11+6) (O (S.AU t).acc.2.2)) Ay hS (λhS0=>?_);clear hS;refine tq 0 hS0 ?_;refine tq 1 hS0 ?_;refine tq 2 hS0 ?_;refine tq 3 hS0 ?_;refine tq 4 hS0 ?_;refine tq 5 hS0 ?_;refine tq 6 hS0 ?_;refine tq 7 hS0 ?_;refine tq 8 hS0 ?_;refine tr 9 λK hK=>?_
 go_simp;refine HB.mono ?_;rintro e w2 ⟨rfl,hB2,hF2⟩;have H2:=I (HH.Dc hF2 hB2)
 have hS2:V w2 Z.b 1 (pT Z.h)/\V w2 Z.g (t*11+4) (O (S.AU t).acc.1)/\V w2 Z.g (t*11+5) (O (S.AU t).acc.2.1)/\V w2 Z.g (t*11+6) (O (S.AU t).acc.2.2):=
  ⟨H2.cb 1 AQ,(H2.cg t HT).cell 4 AQ,(H2.cg t HT).cell 5 AQ,(H2.cg t HT).cell 6 AQ⟩
 have HOW:=I (λ(k:tyN) (hk:k<W.heap.size)=>show(if W.drew.heap.size<=k/\k<w2.heap.size then 3 else ow k)=ow k from AI (by show¬(W.heap.size<=k/\_);omega));have ii:=I (λ(k:tyN) (hk:k<W.heap.size) (h3:ow k≠3)=>show hSM w2 W k from hF2.block k hk h3);clear hB2 hF2 HB HH;refine bk hK hS2 λGJ=>?_
 refine tq 10 GJ ?_;refine CN Ay ?_ _
 try simp only[Act.put,DH,DI,DG,Ei,Ef,Ee]
 by_cases her:er=0
 .have g7:V w2 Z.g (t*11+7) (O (S.AU t).st):=(H2.cg t HT).cell 7 AQ;have f7:=H2.fg (t*11+7);have e0:(er==0)=true:=by rw[Xb];exact her
  clear hS0 hS2 GJ;have HF:=I (H2.zm (t:=t) (j:=7) HT AQ (O 2) (th:={S.AU t with st:=2}) (λi hi=>by match i,hi with|0,_|1,_|2,_|3,_|4,_|5,_|6,_|7,_|8,_|9,_|10,_=>rfl) rfl rfl);have HE:=I (hBS.out.trans (AK her));clear H2 her hsame hBS;go_wp2_with fail
  go_end0
  exact⟨rfl,_,by rw[HE];exact HF,HOW,λk hk h3 hg=>(BF w2 ⟨Z.g,t*11+7,none⟩ _ k hg).trans (ii k hk h3)⟩
 .have e0:(er==0)=false:=by rw[Dy];exact her
  have HE:=I (hBS.out.trans (AI her));have HU:=I (hsame.out her);clear hS0 hS2 GJ hsame hBS her;go_wp2_with fail
  go_end0
  have h9:=H2.out;rw[HU]at h9;exact⟨rfl,_,by rw[HE];exact h9,HOW,λk hk h3 _=>ii k hk h3⟩
theorem pY{n cap q1 q2 q3:tyN}{ob:tyA}{x0 x1 x2 me:tyI}{p:TS->Option RD×TS}{ts:TS}(g' B:tyN)
  (h1:V w q1 0 (pT b)) (h2:V w q2 0 x0/\V w q2 1 x1/\V w q2 2 x2) (h3:V w q3 0 me) (hb:V w b 0 (AR ob n cap))
  (hq:q1<g'/\q2<g'/\q3<g'/\b<g') (hT:AX w g' B ts) (hdo:∀W,Up w W->AX W g' B ts->Calls Tryz.prog 84 #[pT g',AR ob n cap,.agg #[x0,x1,x2],me] W (AP encR g' B W (p ts))):
  Calls Tryz.prog 83 #[pT g',pT q1,pT q2,pT q3] w (AP encR g' B w (p ts)):=by
 have hu:Up w (w.alloc (Y #[(),()] 58)).drew:=((AV w).alloc _).drew;have hbr:(w.alloc (Y #[(),()] 58)).drew.heap[w.heap.size]?=some (.cells #[(),()] 58 (0,0)):=Ah w _;have HD:=I (hdo _ hu (hT.up hu));have hgs:=hT.1.gs;have EK:=I (And.intro hT.1.sz (And.intro hT.1.gB hgs));have HQ:=I hq;have HU:=I hu;have HBR:=I hbr;generalize hr:p ts=r at HD|-
 have hS:(w.alloc (Y #[(),()] 58)).drew.cell? (aD q1 0)=SY (pT b)/\(w.alloc (Y #[(),()] 58)).drew.cell? (aD q2 0)=SY x0/\(w.alloc (Y #[(),()] 58)).drew.cell? (aD q2 1)=SY x1/\(w.alloc (Y #[(),()] 58)).drew.cell? (aD q2 2)=SY x2/\(w.alloc (Y #[(),()] 58)).drew.cell? (aD q3 0)=SY me/\(w.alloc (Y #[(),()] 58)).drew.cell? (aD b 0)=some (.slice ob n cap):=
  ⟨(hu.cell (AJ h1)).trans h1,(hu.cell (AJ h2.1)).trans h2.1,(hu.cell (AJ h2.2.1)).trans h2.2.1,(hu.cell (AJ h2.2.2)).trans h2.2.2,(hu.cell (AJ h3)).trans h3,(hu.cell (AJ hb)).trans hb⟩
 have HS:=I hS;have Vk:=I (λ(w':tyW) (hk:TK g' B (w.alloc (Y #[(),()] 58)).drew w') (q o:tyN) (v:tyV) (hlt:q<g') (hc:(w.alloc (Y #[(),()] 58)).drew.cell? (aD q o)=some v)=>show V w' q o v from(Ak (hk.block q (AJ hc) J (SQ.low (by have:=EK.out;omega)))).trans hc);clear hdo hr hT h1 h2 h3 hb hq hS hu hbr hgs;go_enter Tryz.func83,Tryz.ntmps83;go_upto_region 1 with fail;have hS:=HS.out;refine Br (S:=λw'=>V w' q1 0 (pT b)/\V w' q2 0 x0/\V w' q2 1 x1/\V w' q2 2 x2/\V w' q3 0 me/\V w' b 0 (AR ob n cap)) Ay hS (λhS0=>?_);clear hS;refine tq 0 hS0 ?_;refine tq 1 hS0 ?_;refine tq 2 hS0 ?_;refine tq 3 hS0 ?_;refine tq 4 hS0 ?_;refine tq 5 hS0 ?_;refine tq 6 hS0 ?_;refine tr 7 λK hK=>?_
 go_simp;refine HD.mono ?_;intro e w' hT;obtain⟨ro,s'⟩:=r;cases ro with
 |none=>
  obtain⟨rfl,hT1,GQ⟩:=AP.Fd rfl hT;clear hK;dsimp only;clear K
  go_wp2
  exact⟨rfl,AP.none rfl ⟨rfl,hT1,(TK.Bp HU).trans GQ⟩⟩
 |some v=>
  obtain⟨rfl,hT1,GQ⟩:=AP.Fa rfl hT;have hb3:=GQ.kept HBR (by have:=EK.out;omega) AQ;have HT1:=I hT1;have HT2:=I ((TK.Bp HU).trans GQ);have HB3:=I hb3
  have hS2:V w' q1 0 (pT b)/\V w' q2 0 x0/\V w' q2 1 x1/\V w' q2 2 x2/\V w' q3 0 me/\V w' b 0 (AR ob n cap):=
   ⟨Vk w' GQ q1 0 _ HQ.1 hS0.1,Vk w' GQ q2 0 _ HQ.2.1 hS0.2.1,Vk w' GQ q2 1 _ HQ.2.1 hS0.2.2.1,Vk w' GQ q2 2 _ HQ.2.1 hS0.2.2.2.1,Vk w' GQ q3 0 _ HQ.2.2.1 hS0.2.2.2.2.1,Vk w' GQ b 0 _ HQ.2.2.2 hS0.2.2.2.2.2⟩
  clear hT hT1 GQ Vk HD HS;refine bk hK hS2 λGJ=>?_
  have r0:=cI hb3 0;have r1:=cI hb3 1;have f0:=fI hb3 0;have f1:=fI hb3 1;obtain⟨x,y⟩:=v;unfold encR;refine tr 8 λK hK=>?_
  go_simp;have nR:∀k,k≠w.heap.size->hSM (CY w' w.heap.size x y) w' k:=λk hk=>B8 w' w.heap.size k _ _ hk
  have hne:q1≠w.heap.size/\q2≠w.heap.size/\q3≠w.heap.size/\b≠w.heap.size:=by have:=EK.out;have:=HQ.out;omega
  have Gy:V (CY w' w.heap.size x y) q1 0 (pT b)/\V (CY w' w.heap.size x y) q2 0 x0/\V (CY w' w.heap.size x y) q2 1 x1/\V (CY w' w.heap.size x y) q2 2 x2/\V (CY w' w.heap.size x y) q3 0 me/\V (CY w' w.heap.size x y) b 0 (AR ob n cap):=
   ⟨(Ak (nR _ hne.1)).trans GJ.1,(Ak (nR _ hne.2.1)).trans GJ.2.1,(Ak (nR _ hne.2.1)).trans GJ.2.2.1,(Ak (nR _ hne.2.1)).trans GJ.2.2.2.1,(Ak (nR _ hne.2.2.1)).trans GJ.2.2.2.2.1,(Ak (nR _ hne.2.2.2)).trans GJ.2.2.2.2.2⟩
  refine bk hK Gy λhS5=>?_
  refine CN Ay ?_ _
  try simp only[Act.put,DH,DI,DG,Ei,Ef,Ee]
  clear hS0 hS2 GJ Gy hS5;go_wp2_with fail;refine Gz (v:=encR (x,y)) ?_ rfl (AP.some rfl ⟨rfl,?_,?_⟩)
  .exact GV rfl _ _ w.heap.size 58 _ _ _ rfl (Cp x y HB3) Tryz.underlying58 rfl Ay
  .exact HT1.far HB3 (by have:=EK.out;omega) AQ (Jq (FM _ _ _ _).symm) λk hk _=>B8 w' _ k _ _ hk
  .exact TK.Rb HT2 _ _ J
theorem enters{F:FuncId}{fn:Func}{c:Code}(hf:Tryz.prog.funcs[F]?=some fn)(hname:(fn.name== "runtime.NumGoroutine")=false)(hb:fn.body=some c)(args:Array Value)(W:tyW):(callFunc F args).run Tryz.prog W= .ok (.enter F args) W:=by
 have h1:fn.name≠ "runtime.NumGoroutine" :=by simpa using hname
 simp[callFunc,hf,h1,hb,mark]
theorem TF{B:tyN}{c:tyN}(h:w.ownsRow B 3 1 (AR A l.length c) l.length (Aj l)):Row w A l.length (Bl l):=by
 obtain⟨A',c',e,hr⟩:=Lq h (f:=Bl l) (λk hk=>Er hk);cases e
 exact hr.1
theorem Da{B B':tyN}{e:TypeId}{size n:tyN}{xs:List Value}(h:w.ownsRow B e size v n xs)(hB:B'<=B):w.ownsRow B' e size v n xs:=by
 refine⟨h.1,?_⟩;rcases h.2 with h|⟨g,cap,cur,h1,h2,h3⟩
 .exact .inl h
 .exact .inr ⟨g,cap,cur,h1,DB hB h2,h3⟩
def SZ (e:D6):List Value:=[.int .i64 e.at',.int .i64 e.kind,.int .i64 e.thread,.int .i64 e.call,.int .i64 e.val,.int .i64 e.err,.int .i64 e.YU]
def CU (w:tyW)(q:tyN)(lv:tyV)(l:List D6):Prop:=w.ownsRow q 60 7 lv l.length (l.flatMap SZ)
theorem CU.up{lv:tyV}{l:List D6}(h:CU w q lv l)(u:Up w w'):CU w' q lv l:=AS h λk e=>u.block k (CX h k e).2
theorem NL(l:List D6):∀u∈l.flatMap SZ,u.oneCell'=true:=λu hu=>by
 obtain⟨e,-,hu⟩:=FZ.1 hu;simp only[SZ,BJ,kA,or_false]at hu;rcases hu with rfl|rfl|rfl|rfl|rfl|rfl|rfl<;>rfl
theorem GF:(Tryz.prog.info? 60).map (λi=>(i.zero,i.size,i.bytes))=some (some (.agg #[(),(),(),(),(),(),()]),7,56):=Ay
structure GZ (wx:tyW)(s':TS)(A Nn L:tyA)(e:tyN):Prop where
 acc:I9 wx A s'.acc
 Bi:GK wx Nn s'.Bi
 loc:Row wx L (Ag s'.loc).length (Bl (Ag s'.loc))
 nil:L=none->e=0
def Q2 (s':TS)(A Nn L:tyA)(q:tyN):Prop:=(∀b off,A=some ⟨b,off,none⟩->0<s'.acc.length->b≠q)/\(∀b off,Nn=some ⟨b,off,none⟩->0<s'.Bi.length->b≠q)/\(∀b off,L=some ⟨b,off,none⟩->0<(Ag s'.loc).length->b≠q)
theorem GZ.keep(h:GZ w s' A Nn L e)(ho:Q2 s' A Nn L q)(hk:∀k,k≠q->k<w.heap.size->hSM w' w k):GZ w' s' A Nn L e:=by
 refine⟨λk hlt=>?_,λk hlt=>?_,λk hlt=>?_,h.nil⟩
 .obtain⟨b,off,e,h1,h2,h3⟩:=h.acc k hlt;have:=hk b (ho.1 b off e J) (AJ h1);exact⟨b,off,e,(Ak this).trans h1,(Ak this).trans h2,(Ak this).trans h3⟩
 .obtain⟨b,off,e,h1,h2⟩:=h.Bi k hlt;have:=hk b (ho.2.1 b off e J) (AJ h1);exact⟨b,off,e,(Ak this).trans h1,(Ak this).trans h2⟩
 .obtain⟨b,off,e,h1⟩:=h.loc k hlt;have:=hk b (ho.2.2 b off e J) (AJ h1);exact⟨b,off,e,(Ak this).trans h1⟩
theorem GZ.up(h:GZ w s' A Nn L e)(u:Up w w'):GZ w' s' A Nn L e:=⟨h.acc.up u,h.Bi.up u,h.loc.up u,h.nil⟩
theorem GZ.new(h:GZ w s' A Nn L e)(hq:w.heap.size<=q):Q2 s' A Nn L q:=by
 refine⟨λb off e hp=>?_,λb off e hp=>?_,λb off e hp=>?_⟩
 .obtain⟨b2,Kn,e2,h1,_⟩:=h.acc 0 hp;rw[e]at e2;cases e2;have:=AJ h1;omega
 .obtain⟨b2,Kn,e2,h1,_⟩:=h.Bi 0 hp;rw[e]at e2;cases e2;have:=AJ h1;omega
 .obtain⟨b2,Kn,e2,h1⟩:=h.loc 0 hp;rw[e]at e2;cases e2;have:=AJ h1;omega
def Ot (x y:tyI):Obj:= .cells #[x,y] 58 (0,0)
def wC (done:Bool)(s':TS)(A Nn L:tyA)(c d e:tyN):Obj:= .cells #[done,AR A s'.acc.length c,AR Nn s'.Bi.length d,AR L (Ag s'.loc).length e] 161 (0,0)
def MV:Obj:= .cells #[false,sN,sN,sN] 161 (0,0)
structure DD (n0:tyN)(w:tyW)(q:tyN)(o:Obj):Prop where
 ge:n0<=q
 blk:w.heap[q]?=some o
theorem DD.lt{o:Obj}(h:DD n0 w q o):q<w.heap.size:=(gE h.blk).1
theorem DD.up{o:Obj}(h:DD n0 w q o)(u:Up w w'):DD n0 w' q o:=⟨h.ge,(u.block q h.lt).trans h.blk⟩
theorem DD.new(hn:n0<=w.heap.size)(cs:Array Value)(t:TypeId):DD n0 (w.alloc (Y cs t)) w.heap.size (.cells cs t (0,0)):=⟨hn,Ah w _⟩
theorem DD.keep{o:Obj}(h:DD n0 w q o)(hne:q≠b)(hk:∀k,k≠b->hSM w' w k):DD n0 w' q o:=⟨h.ge,(hk q hne).trans h.blk⟩
theorem DD.AEl{y:tyI}(h:DD n0 w q (Ot 0 0)):DD n0 (CY w q x y) q (Ot x y):=⟨h.ge,Cp _ _ h.blk⟩
theorem DD.AEr{done:Bool}{c d:tyN}(h:DD n0 w q MV):DD n0 (Gn w q done (AR A s'.acc.length c) (AR Nn s'.Bi.length d) (AR L (Ag s'.loc).length e)) q (wC done s' A Nn L c d e):=⟨h.ge,OV _ _ _ _ h.blk⟩
theorem DD.ne0{y:tyI}(h1:DD n0 w q (Ot x y))(h2:DD n0 w b MV):q≠b:=λe=>by
 have h3:=h1.blk;rw[e,h2.blk]at h3;simp[Ot,MV]at h3
theorem Oq{N0:tyN}(h:(∀b' off,A=some ⟨b',off,none⟩->N0+1<=b')/\(∀b' off,L=some ⟨b',off,none⟩->N0+1<=b')/\(∀b' off,Nn=some ⟨b',off,none⟩->N0+1<=b'))(hq:q<=N0):Q2 s' A Nn L q:=
 ⟨λb off e _=>by have:=h.1 b off e;omega,λb off e _=>by have:=h.2.2 b off e;omega,λb off e _=>by have:=h.2.1 b off e;omega⟩
structure Boxed (W1 wx:tyW)(rb zb:tyN)(rp:RD)(done:Bool)(s':TS)(A:tyA)(c:tyN)(Nn:tyA)(d:tyN)(L:tyA)(e:tyN):Prop where
 up:Up W1 wx
 YU:DD W1.heap.size wx rb (Ot rp.1 rp.2)
 out:DD W1.heap.size wx zb (wC done s' A Nn L c d e)
 rows:GZ wx s' A Nn L e
 ge:∀b off,(A=some ⟨b,off,none⟩\/L=some ⟨b,off,none⟩\/Nn=some ⟨b,off,none⟩)->W1.heap.size<=b
theorem Up.AE5{W w:tyW}(u:Up W w)(hb:W.heap.size<=b)(v0 v1:tyV):Up W (CY w b v0 v1):=DL u (GG w b W.heap.size v0 v1 hb)
theorem Up.AFB{W w:tyW}(u:Up W w)(hb:W.heap.size<=b)(v0 v1 v2 v3:tyV):Up W (Gn w b v0 v1 v2 v3):=DL u (Jy w b W.heap.size v0 v1 v2 v3 hb)
theorem Vg(S:WD)(t:tyN)(a b:N8):(S.put t a).put t b=S.put t b:=by
 unfold WD.put;simp only[WD.mk.injEq,P9,dT]
 funext i
 by_cases e:i=t<;>simp[e]
theorem WP(S:WD)(t:tyN):S.put t (S.AU t)=S:=by
 unfold WD.put;cases S with
 |mk n AU Dc drawn now=>
  simp only[WD.mk.injEq,P9,dT]
  funext i
  by_cases e:i=t<;>simp[e]
section
variable {K:WK}{W W':tyW}{S:WD}{N:tyN}{va vl:Nat->Value}{ow:Nat->Nat}{t:tyN}
theorem Wd.oV(H:Wd K W (S.put t a) N va vl ow)(ht:t<K.n)(hj:j<11)(v:tyV)(th:N8)(hf:∀i,i<11->tL th (K.pv t) (va t) (vl t) i=if i=j then v else tL a (K.pv t) (va t) (vl t) i)(e1:th.ans=a.ans)(e2:th.loc=a.loc):
  Wd K (W.setCell (aD K.g (t*11+j)) v) (S.put t th) N va vl ow:=by
 have:=H.zm ht hj v (th:=th) (by rw[BE];exact hf) (by rw[BE];exact e1) (by rw[BE];exact e2);rwa[Vg]at this
theorem Wd.stL(H:Wd K W (S.put t a) N va vl ow)(ht:t<K.n)(hv:W.ownsRow K.B 3 1 v l.length (Aj l))(hnew:∀k,v.ownBlock=some k->ow k=0/\K.w1.heap.size<=k):
  Wd K (W.setCell (aD K.g (t*11+2)) v) (S.put t {a with loc:=l}) N va (λi=>if i=t then v else vl i) (λk=>if v.ownBlock=some k then 5+2*t else ow k):=by
 have:=H.I4 ht hv hnew;rwa[Vg,BE]at this
theorem Wd.AEv(H:Wd K W (S.put t a) N va vl ow)(ht:t<K.n):
  Wd K (W.setCell (aD K.g (t*11+3)) sN) (S.put t {a with ans:=[]}) N (λi=>if i=t then sN else va i) vl ow:=by
 have:=H.AAQ ht;rwa[Vg,BE]at this
theorem Wd.free(H:Wd K W S N va vl ow){k:tyN}(hk:W.heap.size<=k):ow k=0:=by
 rcases Pf (ow k)with h|h
 .exact h
 .have:=(H.own k J).2;omega
theorem Wd.below(H0:Wd K W S N va vl ow){w0 w1:tyW}{S1:WD}(hsz:W.heap.size<=w0.heap.size)(H:Wd K w0 S1 N va vl ow)(hB:Below W.heap.size w0 w1):Wd K w1 S1 N va vl ow:=
 H.keep (KX hB H0.sz) (λk _ h=>hB.block k (H0.own k h).2) (λk hk _=>hB.block k (B5 hk H0.up.size))
end
end
section
theorem vM{t1 t2 t3 t4 t5 t6 t7 t8 t9:Type}{F G:t1->t2->t3->t4->t5->t6->t7->t8->t9->Prop}(h1:(∀a b c d e f g h i,F a b c d e f g h i->G a b c d e f g h i)->M)(h2:∀a b c d e f g h i,F a b c d e f g h i->G a b c d e f g h i):M:=h1 h2
theorem v9{t1 t2 t3 t4 t5:Type}{F G:t1->t2->t3->t4->t5->Prop}(h1:(∀a b c d e,F a b c d e->G a b c d e)->M)(h2:∀a b c d e,F a b c d e->G a b c d e):M:=h1 h2
theorem aS{t1 t2:Type}{F G:t1->t2->Prop}(h1:(∀a b,F a b->G a b)->M)(h2:∀a b,F a b->G a b):M:=h1 h2
end
end Go.Proofs.YtpodgcpkccpnfaaGreat
