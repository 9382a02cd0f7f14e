import Derived.Deep.DeepCutAuto
import Derived.Deep.MidRow
import Derived.Deep.WholeRow
import Derived.Laws.EntriesVeiled
import Derived.Test.YtpodgcpkccpnfaaGreatPk05
set_option linter.unusedVariables false
set_option linter.unusedSimpArgs false
set_option maxRecDepth 20000
set_option maxHeartbeats 40000000
namespace Go.Proofs.YtpodgcpkccpnfaaGreat
variable{cs:Array Value}{L:List Item}{B b c e g me:Nat}{A:Option Addr}{s:TS}{t:TypeId}{x0 x1:Value}{W1 w w':World}
section
open Go.RowKit
theorem dD{size n:tyN}{xs:List Value}(h:w.ownsRow B e size (AR A n c) n xs):n<=c:=by
 obtain⟨A',c',he,h1,_⟩:=Af h;simp only[MI]at he;omega
def Vi (w:tyW)(b:tyN)(done:Bool)(s:TS):Prop:= ∃A c N d L e,BR w b #[done,AR A s.acc.length c,AR N s.Bi.length d,AR L (Ag s.loc).length e] 161/\
 I9 w A s.acc/\GK w N s.Bi/\Row w L (Ag s.loc).length (Bl (Ag s.loc))/\(L=none->e=0)/\(Ag s.loc).length<=e/\(∀b' off,A=some ⟨b',off,none⟩->b<=b')/\(∀b' off,L=some ⟨b',off,none⟩->b<=b')/\(∀b' off,N=some ⟨b',off,none⟩->b<=b')
theorem Tf{W2:tyW}{N g B:tyN}{done:Bool}{A' L:tyA}{c':tyN}{x2 x3:tyV}(hU:Up W1 W2)(hB:N+3<B)(hBs:B<=W1.heap.size)
  (h1:W1.ownsRow B 111 3 (AR A s.acc.length c) s.acc.length (DP s.acc)) (h2:W1.ownsRow B 168 2 (AR A' s.Bi.length c') s.Bi.length (Dl s.Bi))
  (h3:W2.ownsRow W1.heap.size 3 1 (AR L (Ag s.loc).length e) (Ag s.loc).length (Aj (Ag s.loc))) (hb:BR W1 (N+1) #[x0,x1,x2,x3] 161) (hN:hSM W1 w N) (hbe:Below N w W1):
  Vi (Gn W2 (N+1) done (AR A s.acc.length c) (AR A' s.Bi.length c') (AR L (Ag s.loc).length e)) (N+1) done s/\
   hSM (Gn W2 (N+1) done (AR A s.acc.length c) (AR A' s.Bi.length c') (AR L (Ag s.loc).length e)) w N/\
   Below N w (Gn W2 (N+1) done (AR A s.acc.length c) (AR A' s.Bi.length c') (AR L (Ag s.loc).length e)):=by
 have hb2:=(hU.block (N+1) J).trans hb;refine⟨⟨A,c,A',c',L,e,OV _ _ _ _ hb2,?_,?_,?_,⟨LR h3,dD h3,λb' off ho=>by have:=G9 h1 b' off ho;omega,λb' off ho=>by have:=G9 h3 b' off ho;omega,λb' off ho=>by have:=G9 h2 b' off ho;omega⟩⟩,?_,?_⟩
 .exact((pJ h1).up hU).keep λb _ ⟨off,ho⟩=>CO _ _ _ _ _ _ _ (by have:=G9 h1 b off ho;omega)
 .exact((mI h2).up hU).keep λb _ ⟨off,ho⟩=>CO _ _ _ _ _ _ _ (by have:=G9 h2 b off ho;omega)
 .obtain⟨A1,c1,hA,hrow,_⟩:=Lq (f:=Bl (Ag s.loc)) h3 (λk hk=>Er hk);simp only[MI]at hA;obtain⟨rfl,_,_⟩:=hA;exact Ew hrow λb off ho _=>CO _ _ _ _ _ _ _ (by have:=G9 h3 b off ho;omega)
 .exact(CO _ _ _ _ _ _ _ J).trans ((hU.block N J).trans hN)
 .exact(hbe.trans (hU.mono J)).trans (Jy _ _ _ _ _ _ _ J)
theorem ZW{W2:tyW}{N g B:tyN}{done:Bool}{A' L:tyA}{c':tyN}{x2 x3:tyV}{o:Obj}(hU:Up W1 W2)(hB:N+3<B)(hBs:B<=W1.heap.size)
  (h1:W1.ownsRow B 111 3 (AR A s.acc.length c) s.acc.length (DP s.acc)) (h2:W1.ownsRow B 168 2 (AR A' s.Bi.length c') s.Bi.length (Dl s.Bi))
  (h3:W2.ownsRow W1.heap.size 3 1 (AR L (Ag s.loc).length e) (Ag s.loc).length (Aj (Ag s.loc))) (hb:BR W1 (N+1) #[x0,x1,x2,x3] 161) (hN:W1.heap[N]?=some o) (hbe:Below N w W1):
  Vi (Gn W2 (N+1) done (AR A s.acc.length c) (AR A' s.Bi.length c') (AR L (Ag s.loc).length e)) (N+1) done s/\
   (Gn W2 (N+1) done (AR A s.acc.length c) (AR A' s.Bi.length c') (AR L (Ag s.loc).length e)).heap[N]?=some o/\
   Below N w (Gn W2 (N+1) done (AR A s.acc.length c) (AR A' s.Bi.length c') (AR L (Ag s.loc).length e)):=by
 obtain⟨k1,k2,_⟩:=Tf (w:=W1) (done:=done) hU hB hBs h1 h2 h3 hb rfl (Hx N W1) (g:=g);refine⟨k1,k2.trans hN,(hbe.trans (hU.mono J)).trans (Jy _ _ _ _ _ _ _ J)⟩
def vx (N0:tyN)(w:tyW)(v:tyV)(done:Bool)(s:TS):Prop:= ∃A c N d L e,v= .agg #[done,AR A s.acc.length c,AR N s.Bi.length d,AR L (Ag s.loc).length e]/\
 I9 w A s.acc/\GK w N s.Bi/\Row w L (Ag s.loc).length (Bl (Ag s.loc))/\(L=none->e=0)/\(Ag s.loc).length<=e/\(∀b' off,A=some ⟨b',off,none⟩->N0+1<=b')/\(∀b' off,L=some ⟨b',off,none⟩->N0+1<=b')/\(∀b' off,N=some ⟨b',off,none⟩->N0+1<=b')
def CY (w:tyW)(b:tyN)(v0 v1:tyV):World:=(w.setCell (aD b 0) v0).setCell (aD b 1) v1
theorem Cp(v0 v1:tyV)(h:BR w b #[x0,x1] t):BR (CY w b v0 v1) b #[v0,v1] t:=by
 have hlt:b<w.heap.size:=(gE h).1;unfold CY;obtain⟨h1,h2⟩:=AAF.1 h;simp[World.setCell,l9,h]
theorem B8(w:tyW)(b k:tyN)(v0 v1:tyV)(h:k≠b):hSM (CY w b v0 v1) w k:=by
 unfold CY;rw[BF _ _ _ _ (Cw h),BF _ _ _ _ (Cw h)]
theorem FM(w:tyW)(b:tyN)(v0 v1:tyV):(CY w b v0 v1).heap.size=w.heap.size:=by simp[CY]
theorem GG(w:tyW)(b N:tyN)(v0 v1:tyV)(h:N<=b):Below N w (CY w b v0 v1):=
 ((Hx N w).setCell (p:=aD b 0) h v0).setCell (p:=aD b 1) h v1
theorem lS(N g B:tyN)(z:tyV)(s:TS)(w:tyW)(h:AX w g B s)(hN:N+1<g)(hgB:N+3<B)(hg3:g≠N+1+1+1)(hNs:N+3<w.heap.size)
  (hp:V w (N+1+1+1) 0 (pT g)) (ho:BR w (N+1) #[false,sN,sN,sN] 161):
  CallsD Tryz.prog 110 #[pT (N+1+1+1),pT N,pT (N+1)] .returning w λe u' w'=>
   e=BA (.tuple #[])/\u'= .returning/\Vi w' (N+1) true s/\hSM w' w N/\Below N w w':=by
 have c0:=h.1.c0;have f0:=h.1.fz 0;have HT:=I (h.1.state 0);have HK:=I ((TK.refl g B w).setCell (j:=0) ());have hb1:=(BF w ⟨g,0,none⟩ () (N+1) (by simp;omega)).trans ho;have hbN:=BF w ⟨g,0,none⟩ () N (by simp;omega);have nK:=I ((Hx N w).setCell (p:=aD g 0) (by simp;omega) ());have hs1:(w.setCell (aD g 0) ()).heap.size=w.heap.size:=Az;have HB1:=I hb1;have jS:=I hbN;have Pw:=I hs1;clear hb1 hbN hs1;have hp1:=(Ck w ⟨g,0,none⟩ ⟨N+1+1+1,0,none⟩ () (by simp<;>omega)).trans hp;refine callsD_of_wpS Tryz.func110 rfl λc₀ cs hu=>?_
 simp only[Tryz.ntmps110,fa,Qy,Rn,Nat.reduceAdd,Nat.reduceSub,jn,lW,kQ,ld,PL,ak];apply wpS_seq;apply wpS_region;simp[wpOpsS,go_sem,recoverD,hu,Exit.thenS,hp,c0];apply wpS_seq;apply wpS_region;simp[wpOpsS,go_sem,recoverD,hu,Exit.thenS,hp,c0,f0];generalize w.setCell (aD g 0) ()=W1 at*;apply wpS_seq;apply wpS_seq;apply wpS_region;simp[wpOpsS,go_sem,recoverD,hu,Exit.thenS];apply wpS_seq;apply wpS_region;simp[wpOpsS,go_sem,recoverD,hu,Exit.thenS];refine wpS_cond (t:=false) rfl ?_;simp only[qa,pH];refine wpS_of_wp (wp_skip ?_);show Code.wpS _ _ _ _ _ _;refine wpS_of_wp ?_;go_wp2_with fail;obtain⟨vA,hcA,zC⟩:=HT.acc;obtain⟨A,cA,rfl,hA1,hA2⟩:=Af zC;obtain⟨vN,hcN,zD⟩:=HT.Bi;obtain⟨A',cN,rfl,hN1,hN2⟩:=Af zD;obtain⟨vL,hcL,uG⟩:=HT.loc;obtain⟨dd,cL,rfl,hL1,hL2⟩:=Af uG
 have wl:=I (λ(W:tyW) (hU:Up W1 W)=>by
  obtain⟨A1,c1,hA,hrow,_⟩:=Lq (f:=Bl s.loc) uG (λk hk=>Er hk);simp only[MI]at hA;obtain⟨rfl,_,_⟩:=hA
  exact Td s.loc dd cL W (LR uG) (hrow.up hU) (by have:=HT.out.ll;omega) hL1)
 have HO:=I (λ(W2:tyW) (L:tyA) (e:tyN) (hU:Up W1.drew W2) h3=>Tf (w:=w) (W1:=W1.drew) (W2:=W2) (N:=N) (g:=g) (done:=true) (L:=L) (e:=e) hU hgB HT.sz zC zD h3 HB1 jS nK.drew);have hS0:YF N g A s.acc.length cA A' s.Bi.length cN dd s.loc.length cL W1.drew:=⟨hp1,hcA,hcN,hcL⟩;have GR:=I (AV W1).drew;have EK:=I (show N+1<W1.heap.size by have:=Pw.out;omega);have HD:=I hS0;obtain⟨n1,hn1⟩:=gX s.acc.length;obtain⟨n2,hn2⟩:=gX s.Bi.length;obtain⟨n3,bG⟩:=gX s.loc.length;rw[hn1,hn2,bG]at hS0 HD;rw[hn1,hn2]at HO;rw[bG]at wl;clear hcA hcN hcL zC zD uG hA1 hA2 hN1 hN2 hL1 hL2 h c0 f0 hp ho hn1 hn2 bG;refine wp_region_noPanic ?_;refine Br (S:=λw=>V w (N+1+1+1) 0 (pT g)/\V w g 3 (AR A n1 cA)/\V w g 4 (AR A' n2 cN)/\V w g 2 (AR dd n3 cL)) Ay hS0 (λhH0=>?_);clear hS0;refine tq 0 hH0 ?_;refine tq 1 hH0 ?_;refine tq 2 hH0 ?_;refine tq 3 hH0 ?_;refine tq 4 hH0 ?_;refine tq 5 hH0 ?_;refine tq 6 hH0 ?_;refine tq 7 hH0 ?_;refine tq 8 hH0 ?_;refine tq 9 hH0 ?_;refine tq 10 hH0 ?_;refine tq 11 hH0 ?_;refine tq 12 hH0 ?_;refine tr 13 λK hK=>?_
 go_simp;refine(wl W1.drew GR).mono ?_;rintro e W2 ⟨v,rfl,h1,h2⟩;obtain⟨L,eL,rfl,_,_⟩:=Af h1;have HQ:=I (HO W2 L eL h2 h1);have hH1:=HD.up h2;have hb2:=I ((h2.block (N+1) (by exact EK)).trans (show W1.drew.heap[N+1]?=_ from HB1));generalize(Ag s.loc).length=n4 at*;clear h1 h2 HO wl hH0 HD;refine bk hK hH1 λhH2=>?_
 clear hH1;refine tq 14 hH2 ?_;have k0:=Ar W2 (N+1) 0 _ _ _ hb2.out;have k1:=Ar W2 (N+1) 1 _ _ _ hb2.out;have k2:=Ar W2 (N+1) 2 _ _ _ hb2.out;have k3:=Ar W2 (N+1) 3 _ _ _ hb2.out;simp only[Iv,Is,I6]at k0 k1 k2 k3;have f0:=D4 W2 (N+1) 0 _ _ hb2.out;have f1:=D4 W2 (N+1) 1 _ _ hb2.out;have f2:=D4 W2 (N+1) 2 _ _ hb2.out;have f3:=D4 W2 (N+1) 3 _ _ hb2.out;refine tr 15 λK hK=>?_
 go_simp
 have hH3:V (Gn W2 (N+1) true (AR A n1 cA) (AR A' n2 cN) (AR L n4 eL)) (N+1+1+1) 0 (pT g)/\V (Gn W2 (N+1) true (AR A n1 cA) (AR A' n2 cN) (AR L n4 eL)) g 3 (AR A n1 cA)/\
   V (Gn W2 (N+1) true (AR A n1 cA) (AR A' n2 cN) (AR L n4 eL)) g 4 (AR A' n2 cN)/\V (Gn W2 (N+1) true (AR A n1 cA) (AR A' n2 cN) (AR L n4 eL)) g 2 (AR dd n3 cL):=
  ⟨(Ak (CO _ _ _ _ _ _ _ J)).trans hH2.1,(Ak (CO _ _ _ _ _ _ _ J)).trans hH2.2.1,(Ak (CO _ _ _ _ _ _ _ J)).trans hH2.2.2.1,(Ak (CO _ _ _ _ _ _ _ J)).trans hH2.2.2.2⟩
 refine bk hK hH3 λVp=>?_
 refine CN Ay ?_ _;refine NoPanic.normal ?_;refine⟨rfl,.returning,by cases c₀;simp_all,.tuple #[],?_,rfl,rfl,HQ.1,HQ.2.1,HQ.2.2⟩;simp[results,Tryz.results110]
theorem Zn(N g B:tyN)(z:tyV)(s:TS)(w:tyW)(h:A5 w g B 2 s)(hN:N+1<g)(hgB:N+3<B)(hg3:g≠N+1+1+1)(hNs:N+3<w.heap.size)
  (hp:V w (N+1+1+1) 0 (pT g)) (hz:BR w N #[(),()] 58) (ho:BR w (N+1) #[false,sN,sN,sN] 161):
  CallsD Tryz.prog 110 #[pT (N+1+1+1),pT N,pT (N+1)] (.panicking (JL g)) w λe u' w'=>
   e=BA (.tuple #[])/\u'= .panicking [{v:= .iface 198 (.agg #[pT g]),recovered:=true}]/\Vi w' (N+1) false s/\BR w' N #[(),()] 58/\Below N w w':=by
 have hta:∀(x:tyV) (W:tyW),(Instr.typeAssert (.iface 198 x) 20 198 true).run Tryz.prog W= .ok (.tuple #[x,true]) W:=λ_ _=>Ay
 have hnp:∀(a:Addr) (W:tyW),(binOp .neq 164 (.pointer (some a)) (.pointer (some a))).run Tryz.prog W= .ok false W:=λa W=>Lib.run_neq_ptr_same (P:=Tryz.prog) (te:=196) W a Tryz.underlying164 pF
 have c0:=h.c0;have f0:=h.fz 0;have HT:=I (h.state 0);have HK:=I ((TK.refl g B w).setCell (j:=0) ());have hb1:=(BF w ⟨g,0,none⟩ () (N+1) (by simp;omega)).trans ho;have hbN:=BF w ⟨g,0,none⟩ () N (by simp;omega);have nK:=I ((Hx N w).setCell (p:=aD g 0) (by simp;omega) ());have hs1:(w.setCell (aD g 0) ()).heap.size=w.heap.size:=Az;have HB1:=I hb1;have jS:=I hbN;have Pw:=I hs1;clear hb1 hbN hs1;have hp1:=(Ck w ⟨g,0,none⟩ ⟨N+1+1+1,0,none⟩ () (by simp<;>omega)).trans hp;refine callsD_of_wpS Tryz.func110 rfl λc₀ cs hu=>?_
 simp only[Tryz.ntmps110,fa,Qy,Rn,Nat.reduceAdd,Nat.reduceSub,jn,lW,kQ,ld,PL,ak];apply wpS_seq;apply wpS_region;simp[wpOpsS,go_sem,recoverD,hu,Exit.thenS,hp,c0];apply wpS_seq;apply wpS_region;simp[wpOpsS,go_sem,recoverD,hu,Exit.thenS,hp,c0,f0];generalize w.setCell (aD g 0) ()=W1 at*;apply wpS_seq;apply wpS_seq;apply wpS_region;simp[wpOpsS,go_sem,recoverD,hu,Exit.thenS,JL];apply wpS_seq;apply wpS_region;simp[wpOpsS,go_sem,recoverD,hu,Exit.thenS];refine wpS_cond (t:=true) rfl ?_;simp only[Ke];refine wpS_of_wp ?_;have hpl:N+1+1+1<W1.heap.size:=by have:=Pw.out;omega
 go_wp2_with fail;obtain⟨vA,wm,wn⟩:=HT.acc;obtain⟨A,cA,rfl,hA1,hA2⟩:=Af wn;obtain⟨vN,wo,wt⟩:=HT.Bi;obtain⟨A',cN,rfl,hN1,hN2⟩:=Af wt;obtain⟨vL,wu,xA⟩:=HT.loc;obtain⟨dd,cL,rfl,hL1,hL2⟩:=Af xA;have xB:=I HT.ll;have ABM:=I HT.sz;have df:Up W1 (W1.alloc (Y #[pT g] 198)):=(AV W1).alloc _;have nL:=(df.cell (p:=aD g 3) (AJ wm)).trans wm;have nM:=(df.cell (p:=aD g 4) (AJ wo)).trans wo;have nN:=(df.cell (p:=aD g 2) (AJ wu)).trans wu;have hp2:=(df.cell (p:=aD (N+1+1+1) 0) hpl).trans hp1;have rY:=EB wn df;have rZ:=EB wt df;have rf:=EB xA df;have rn:=(df.block N J).trans (jS.trans hz);have hb2:=(df.block (N+1) J).trans HB1;have bH:=nK.trans (df.mono (B':=N) J);have hs2:=df.size;generalize W1.alloc (Y #[pT g] 198)=W3 at*;have Py:Up W3 (W3.alloc (Y #[(),()] 58)):=(AV W3).alloc _;have ABN:N<W3.heap.size:=(gE rn).1
 replace rY:=EB rY Py
 replace rZ:=EB rZ Py
 replace rf:=EB rf Py
 replace nL:=(Py.cell (p:=aD g 3) (AJ nL)).trans nL
 replace nM:=(Py.cell (p:=aD g 4) (AJ nM)).trans nM
 replace nN:=(Py.cell (p:=aD g 2) (AJ nN)).trans nN
 replace hp2:=(Py.cell (p:=aD (N+1+1+1) 0) (AJ hp2)).trans hp2
 replace hb2:=(Py.block (N+1) (gE hb2).1).trans hb2
 replace rn:=(Py.block N ABN).trans rn
 replace bH:=bH.trans (Py.mono (B':=N) J)
 replace hs2:=DB hs2 Py.size
 clear Py ABN;have kN:=Ar (W3.alloc (Y #[(),()] 58)) N 0 _ _ _ rn;have kN1:=Ar (W3.alloc (Y #[(),()] 58)) N 1 _ _ _ rn;simp only[Iv,Is,I6]at kN kN1;have fN:=D4 (W3.alloc (Y #[(),()] 58)) N 0 _ _ rn;have fN1:=D4 (W3.alloc (Y #[(),()] 58)) N 1 _ _ rn;have ABO:=I rY;have ABP:=I rZ;have ABQ:=I rf;have HzN:=I rn;have Hb2:=I hb2;have ABR:=I bH;have Hs2:=I hs2;have Hp2:=I hp2;have ABS:=I nL;have ABT:=I nM;have ABU:=I nN;have US:=I hpl;clear wm wo wu wn wt xA df rY rZ rf rn hb2 bH HT HK nK HB1 jS hs2 c0 f0 h hp ho hp1 hp2 nL nM nN hz hpl hta;show Code.wpS _ _ _ _ _ _;refine wpS_of_wp ?_;go_wp2_with fail;have hk:∀k,k≠N->(CY (W3.alloc (Y #[(),()] 58)) N () ()).heap[k]?=(W3.alloc (Y #[(),()] 58)).heap[k]?:=λk hk=>B8 (W3.alloc (Y #[(),()] 58)) N k _ _ hk
 have hcA:=(Ak (o:=3) (hk g J)).trans ABS;have hcN:=(Ak (o:=4) (hk g J)).trans ABT;have hcL:=(Ak (o:=2) (hk g J)).trans ABU;have hp1:=(Ak (o:=0) (hk (N+1+1+1) J)).trans Hp2;have zC:=BQ ABO (λk cs hB _=>hk k J);have zD:=BQ ABP (λk cs hB _=>hk k J);have uG:=BQ ABQ (λk cs hB _=>hk k J);have HB1:=I ((hk (N+1) J).trans Hb2);have jS:=I (Cp () () HzN);have nK:=I (ABR.trans (GG (W3.alloc (Y #[(),()] 58)) N N () () (A9 _)));have hsz:B<=(CY (W3.alloc (Y #[(),()] 58)) N () ()).heap.size:=by rw[FM];have:=ABM.out;have:=Hs2.out;omega
 have Pw:=I (show N+3<(CY (W3.alloc (Y #[(),()] 58)) N () ()).heap.size by rw[FM];have:=US.out;have:=Hs2.out;omega);rw[show((W3.alloc (Y #[(),()] 58)).setCell (aD N 0) (.int .i64 0)).setCell (aD N 1) (.int .i64 0)=CY (W3.alloc (Y #[(),()] 58)) N (.int .i64 0) (.int .i64 0)from rfl];generalize CY (W3.alloc (Y #[(),()] 58)) N () ()=W1 at*;clear hk Hp2 ABO ABP ABQ HzN Hb2 ABR Hs2 ABM kN fN kN1 fN1 ABS ABT ABU US
 have wl:=I (λ(W:tyW) (hU:Up W1 W)=>by
  obtain⟨A1,c1,hA,hrow,_⟩:=Lq (f:=Bl s.loc) uG (λk hk=>Er hk);simp only[MI]at hA;obtain⟨rfl,_,_⟩:=hA
  exact Td s.loc dd cL W (LR uG) (hrow.up hU) (by have:=xB.out;omega) hL1)
 have HO:=I (λ(W2:tyW) (L:tyA) (e:tyN) (hU:Up W1.drew W2) h3=>ZW (w:=w) (W1:=W1.drew) (W2:=W2) (N:=N) (g:=g) (done:=false) (L:=L) (e:=e) hU hgB hsz zC zD h3 HB1 jS nK.drew);have hS0:YF N g A s.acc.length cA A' s.Bi.length cN dd s.loc.length cL W1.drew:=⟨hp1,hcA,hcN,hcL⟩;have GR:=I (AV W1).drew;have EK:=I (show N+1<W1.heap.size by have:=Pw.out;omega);have HD:=I hS0;obtain⟨n1,hn1⟩:=gX s.acc.length;obtain⟨n2,hn2⟩:=gX s.Bi.length;obtain⟨n3,bG⟩:=gX s.loc.length;rw[hn1,hn2,bG]at hS0 HD;rw[hn1,hn2]at HO;rw[bG]at wl;clear hcA hcN hcL zC zD uG hA1 hA2 hN1 hN2 hL1 hL2 hn1 hn2 bG hp1 hsz;refine wp_region_noPanic ?_;refine Br (S:=λw=>V w (N+1+1+1) 0 (pT g)/\V w g 3 (AR A n1 cA)/\V w g 4 (AR A' n2 cN)/\V w g 2 (AR dd n3 cL)) Ay hS0 (λhH0=>?_);clear hS0;refine tq 0 hH0 ?_;refine tq 1 hH0 ?_;refine tq 2 hH0 ?_;refine tq 3 hH0 ?_;refine tq 4 hH0 ?_;refine tq 5 hH0 ?_;refine tq 6 hH0 ?_;refine tq 7 hH0 ?_;refine tq 8 hH0 ?_;refine tq 9 hH0 ?_;refine tq 10 hH0 ?_;refine tq 11 hH0 ?_;refine tq 12 hH0 ?_;refine tr 13 λK hK=>?_
 go_simp;refine(wl W1.drew GR).mono ?_;rintro e W2 ⟨v,rfl,h1,h2⟩;obtain⟨L,eL,rfl,_,_⟩:=Af h1;have HQ:=I (HO W2 L eL h2 h1);have hH1:=HD.up h2;have hb2:=I ((h2.block (N+1) (by exact EK)).trans (show W1.drew.heap[N+1]?=_ from HB1));generalize(Ag s.loc).length=n4 at*;clear h1 h2 HO wl hH0 HD;refine bk hK hH1 λhH2=>?_
 clear hH1;refine tq 14 hH2 ?_;have k0:=Ar W2 (N+1) 0 _ _ _ hb2.out;have k1:=Ar W2 (N+1) 1 _ _ _ hb2.out;have k2:=Ar W2 (N+1) 2 _ _ _ hb2.out;have k3:=Ar W2 (N+1) 3 _ _ _ hb2.out;simp only[Iv,Is,I6]at k0 k1 k2 k3;have f0:=D4 W2 (N+1) 0 _ _ hb2.out;have f1:=D4 W2 (N+1) 1 _ _ hb2.out;have f2:=D4 W2 (N+1) 2 _ _ hb2.out;have f3:=D4 W2 (N+1) 3 _ _ hb2.out;refine tr 15 λK hK=>?_
 go_simp
 have hH3:V (Gn W2 (N+1) false (AR A n1 cA) (AR A' n2 cN) (AR L n4 eL)) (N+1+1+1) 0 (pT g)/\V (Gn W2 (N+1) false (AR A n1 cA) (AR A' n2 cN) (AR L n4 eL)) g 3 (AR A n1 cA)/\
   V (Gn W2 (N+1) false (AR A n1 cA) (AR A' n2 cN) (AR L n4 eL)) g 4 (AR A' n2 cN)/\V (Gn W2 (N+1) false (AR A n1 cA) (AR A' n2 cN) (AR L n4 eL)) g 2 (AR dd n3 cL):=
  ⟨(Ak (CO _ _ _ _ _ _ _ J)).trans hH2.1,(Ak (CO _ _ _ _ _ _ _ J)).trans hH2.2.1,(Ak (CO _ _ _ _ _ _ _ J)).trans hH2.2.2.1,(Ak (CO _ _ _ _ _ _ _ J)).trans hH2.2.2.2⟩
 refine bk hK hH3 λVp=>?_
 refine CN Ay ?_ _;refine NoPanic.normal ?_;refine⟨rfl,.panicking [{v:= .iface 198 (.agg #[pT g]),recovered:=true}],rfl,.tuple #[],?_,rfl,rfl,HQ.1,HQ.2.1,HQ.2.2⟩;simp[results,Tryz.results110]
structure aH (w W:tyW)(z:Array Value)(tz:TypeId)(A1:tyA)(n c:tyN):Prop where
 up:Up w W
 sz:W.heap.size=w.heap.size+4
 b0:BR W w z tz
 b1:BR W (w+1) #[false,sN,sN,sN] 161
 b2:BR W (w+1+1) #[O 1,AR A1 n c,sN,sN,sN] 196
 b3:BR W (w+1+1+1) #[pT (w+1+1)] 164
theorem uv(w:tyW)(z:Array Value)(tz:TypeId)(A1:tyA)(n c:tyN):
  aH w ((((w.alloc (Y z tz)).alloc (Y #[false,sN,sN,sN] 161)).alloc
   (Y #[O 1,AR A1 n c,sN,sN,sN] 196)).alloc (Y #[pT (w+1+1)] 164)) z tz A1 n c where
 up:=((((AV w).alloc _).alloc _).alloc _).alloc _
 sz:=Az
 b0:=by
  rw[JP _ _ _ (by simp;omega),JP _ _ _ (by simp;omega),JP _ _ _ Az];exact Ah w _
 b1:=by
  rw[JP _ _ _ Az,JP _ _ _ Az];have:=Ah (w.alloc (Y z tz)) (Y #[false,sN,sN,sN] 161);rw[Cy]at this;exact this
 b2:=by
  rw[JP _ _ _ Az];have:=Ah ((w.alloc (Y z tz)).alloc (Y #[false,sN,sN,sN] 161)) (Y #[O 1,AR A1 n c,sN,sN,sN] 196);rw[Cy,Cy]at this;exact this
 b3:=by
  have:=Ah (((w.alloc (Y z tz)).alloc (Y #[false,sN,sN,sN] 161)).alloc (Y #[O 1,AR A1 n c,sN,sN,sN] 196)) (Y #[pT (w+1+1)] 164);rw[Cy,Cy,Cy]at this;exact this
theorem YX{W:tyW}{z:Array Value}{tz:TypeId}{A1:tyA}{ans loc:tyL}{v:tyV}(h:aH w W z tz A1 ans.length c)(hr1:Row w A1 ans.length (Bl ans))(hl0:loc.length<=32768)(hl1:ans.length<=5000)
  (hU:Up W W1) (hown:W1.ownsRow W.heap.size 3 1 v loc.length (Aj loc)):
  AX (W1.setCell (aD (w+1+1) 2) v) (w.heap.size+1+1) (w.heap.size+4) ⟨ans,loc,[],[]⟩:=by
 have hs:=h.sz;have hkeep:∀k,k<W.heap.size->k≠w.heap.size+1+1->hSM (W1.setCell (aD (w+1+1) 2) v) W k:=λk hk hne=>(BF W1 ⟨w.heap.size+1+1,2,none⟩ v k hne).trans (hU.block k hk)
 have hb2:=(hU.block (w.heap.size+1+1) J).trans h.b2;have hc:∀j,j≠2->(W1.setCell (aD (w+1+1) 2) v).cell? (aD (w+1+1) j)=W1.cell? (aD (w+1+1) j):=λj hj=>Ck _ _ _ _ (by simp<;>omega)
 have hcj:∀j,W1.cell? (aD (w+1+1) j)= #[Value.int .i64 1,.slice A1 ans.length c,.slice none 0 0,.slice none 0 0,.slice none 0 0][j]?:=λj=>Ar W1 _ j _ _ _ hb2
 refine⟨⟨J,by have:=hU.size;simp;omega,(hc 0 AQ).trans (hcj 0),λj=>?_,⟨A1,c,(hc 1 AQ).trans (hcj 1),?_,?_⟩,⟨v,Ek _ _ _ (hcj 2),?_⟩,⟨_,(hc 3 AQ).trans (hcj 3),YN _ _ _ _⟩,⟨_,(hc 4 AQ).trans (hcj 4),YN _ _ _ _⟩,Az,by simp only;omega,by simp only;omega⟩,Az⟩
 .have:=D4 W1 (w.heap.size+1+1) j _ _ hb2;simpa[go_sem]using this
 .refine Ew (hr1.up h.up) (λb off e hp=>?_);obtain⟨b',off',e',hcell⟩:=hr1 0 hp;rw[e]at e';cases e'
  have hlt:=AJ hcell;exact hkeep b J J
 .intro b off e hp;obtain⟨b',off',e',hcell⟩:=hr1 0 hp;rw[e]at e';cases e'
  have hlt:=AJ hcell;omega
 .rw[hs]at hown;exact BQ hown (λk cs hB _=>BF W1 ⟨w.heap.size+1+1,2,none⟩ v k (by simp;omega))
structure vt (w W5:tyW)(v:Array Value)(t:TypeId)(s':TS):Prop where
 tp:AX W5 (w.heap.size+1+1) (w.heap.size+4) s'
 go:BR W5 w v t
 ou:BR W5 (w+1) #[false,sN,sN,sN] 161
 pt:V W5 (w+1+1+1) 0 (pT (w+1+1))
 be:Below w.heap.size w W5
 sz:w.heap.size+3<W5.heap.size
theorem vZ{W4:tyW}{v0 v1:tyV}{s':TS}(hT:AX W4 (w.heap.size+1+1) (w.heap.size+4) s')(hZ:BR W4 w #[v0,v1] t)
  (hO:BR W4 (w+1) #[false,sN,sN,sN] 161)
  (hP:V W4 (w+1+1+1) 0 (pT (w+1+1))) (hbe:Below w.heap.size w W4) (hsz:w.heap.size+4<=W4.heap.size):
  vt w ((((((CY W4 w.heap.size v0 v1).setCell (aD (w+1) 0) false).setCell (aD (w+1) 1) sN).setCell (aD (w+1) 2) sN).setCell (aD (w+1) 3) sN).drew) #[v0,v1] t s':=by
 have hk1:∀k,k≠w.heap.size->hSM (CY W4 w.heap.size v0 v1) W4 k:=λk hk=>B8 W4 w.heap.size k _ _ hk
 have hq1:=(hk1 (w.heap.size+1) J).trans hO;have hs1:(CY W4 w.heap.size v0 v1).heap.size=W4.heap.size:=by simp[CY]
 have e:((((((CY W4 w.heap.size v0 v1).setCell (aD (w+1) 0) false).setCell (aD (w+1) 1) sN).setCell (aD (w+1) 2) sN).setCell (aD (w+1) 3) sN).drew)=(Gn (CY W4 w.heap.size v0 v1) (w.heap.size+1) false sN sN sN).drew:=rfl;rw[e];have hs2:(Gn (CY W4 w.heap.size v0 v1) (w.heap.size+1) false sN sN sN).heap.size=W4.heap.size:=by simp[Gn,CY]
 have hk2:∀k,k≠w.heap.size+1->(Gn (CY W4 w.heap.size v0 v1) (w.heap.size+1) false sN sN sN).heap[k]?=(CY W4 w.heap.size v0 v1).heap[k]?:=λk hk=>CO _ _ _ _ _ _ _ hk
 have hsame:=OV false sN sN sN hq1;have hpb:=Jy (CY W4 w.heap.size v0 v1) (w.heap.size+1) w.heap.size false sN sN sN J;clear e;generalize Gn (CY W4 w.heap.size v0 v1) (w.heap.size+1) false sN sN sN=W5 at*;have h1:=hT.1.low (b:=w.heap.size) (w':=CY W4 w.heap.size v0 v1) J J J (λk _ hne=>hk1 k hne);have h2:=h1.low (b:=w.heap.size+1) (w':=W5) J J J (λk _ hne=>hk2 k hne);exact⟨⟨h2.drew,hT.2⟩,(hk2 _ J).trans (Cp v0 v1 hZ),hsame,(Ak ((hk2 _ J).trans (hk1 _ J))).trans hP,((hbe.trans (GG W4 w.heap.size w.heap.size v0 v1 (A9 _))).trans hpb).drew,by show _<W5.heap.size;omega⟩
def encR (r:Int×Int):Value:= .agg #[r.1,r.2]
def tG:Value:=()
theorem zx(F:tyN)(cap:Array Value)(p:TS->Option (Int×Int)×TS)(loc ans:tyL)(A0 A1:tyA)(c0 c1:tyN)(w:tyW)(hA0:A0=none->c0=0)(hl0:loc.length<=32768)(hl1:ans.length<=5000)
  (hr0:Row w A0 loc.length (Bl loc)) (hr1:Row w A1 ans.length (Bl ans)) (hc0:loc.length<=c0)
  (hcf:∀(args:Array Value) (W:tyW),(callFunc F args).run Tryz.prog W= .ok (.enter F args) W)
  (hdo:∀(W:tyW) (g B:tyN),Up w W->w.heap.size<=g->AX W g B ⟨ans,loc,[],[]⟩->Calls Tryz.prog F (#[.pointer (some (aD g 0))]++cap) W (AP encR g B W (p ⟨ans,loc,[],[]⟩))):
  Calls Tryz.prog 82 #[.func (.func F) #[] cap,AR A0 loc.length c0,AR A1 ans.length c1] w λe w'=>
   ∃ov,e=BA (.tuple #[encR ((p ⟨ans,loc,[],[]⟩).1.getD (0,0)),ov])/\vx w.heap.size w' ov (p ⟨ans,loc,[],[]⟩).1.isSome (p ⟨ans,loc,[],[]⟩).2/\Up w w':=by
 have hmf:∀(fn:Fn) (first cap:Array Value) (w:tyW),(Instr.makeFunc fn first cap).run Tryz.prog w= .ok (.func fn first cap) w:=λ_ _ _ _=>rfl
 generalize hr:p ⟨ans,loc,[],[]⟩=r at hdo|-;obtain⟨ro,s'⟩:=r;clear hr;have Px:=I (λ(W:tyW) (hU:Up w W)=>Li loc A0 c0 W hA0 (hr0.up hU) J);have OI:=I (uv w #[(),()] 58 A1 ans.length c1);have HBT:=I (λ(W W1:tyW) (v:tyV) (h:aH w W #[(),()] 58 A1 ans.length c1)=>YX (W1:=W1) (v:=v) h hr1 hl0 hl1);have uH:=I hdo;obtain⟨n0,hn0⟩:=gX loc.length;obtain⟨n1,hn1⟩:=gX ans.length;rw[hn0]at hl0 hc0 Px HBT|-;rw[hn1]at OI HBT|-;clear hdo hr0 hr1 hn0 hn1 hA0 hl1;have hi0:(0:tyI)<=(n0:tyI):=J;have hi1:(n0:tyI)<=(c0:tyI):=J;have hi2:((32768:tyI)<(n0:tyI))=False:=by simp;omega
 have hmin:min (n0:tyI) 32768=n0:=J
 go_enter_defers Tryz.func82,Tryz.ntmps82
 go_wp2_with fail
 obtain⟨W0,hW0⟩:∃W0,((((w.alloc (Y #[(),()] 58)).alloc (Y #[false,sN,sN,sN] 161)).alloc
  (Y #[O 1,AR A1 n1 c1,sN,sN,sN] 196)).alloc (Y #[pT (w+1+1)] 164))=W0:=⟨_,rfl⟩
 rw[hW0]at OI|-;clear hW0;have hd3:V W0.drew (w+1+1+1) 0 (pT (w+1+1)):=cell_of_one OI.b3;have hd2:V W0.drew (w+1+1) 2 sN:=Ar W0 _ 2 _ _ _ OI.b2;have hf2:W0.drew.frozen? (aD (w+1+1) 2)=false:=D4 W0 _ 2 _ _ OI.b2;have hUW:Up w W0.drew:=OI.up.drew;have HD2:=I hd2;have Yr:=I hf2;clear hd2 hf2;refine wp_region_noPanic ?_;refine Br (S:=λw'=>V w' (w+1+1+1) 0 (pT (w+1+1))) Ay hd3 (λhH0=>?_);refine tq 0 hH0 ?_;refine tq 1 hH0 ?_;refine tq 2 hH0 ?_;refine tq 3 hH0 ?_;refine tq 4 hH0 ?_;refine tq 5 hH0 ?_;refine tr 6 λK hK=>?_
 go_simp;refine(Px W0.drew hUW).mono ?_;rintro e w1 ⟨v,rfl,h1,h2⟩;obtain⟨vA,vc,rfl,_,_⟩:=Af h1;have H1:=I h1;have H2:=I h2;have hS1:=(h2.cell (p:=aD (w+1+1+1) 0) (AJ hd3)).trans hd3;have hS2:=(h2.cell (p:=aD (w+1+1) 2) (AJ HD2)).trans HD2;have GJ:=(h2.frozen (p:=aD (w+1+1) 2) (AJ HD2)).trans Yr;clear h1 h2;refine bk hK hS1 λhH1=>?_
 refine tq 7 hH1 ?_;refine tq 8 hH1 ?_;refine tr 9 λK hK=>?_
 go_simp;refine bk hK ((Ck _ _ _ _ Az).trans hS1) λhH2=>?_
 refine CN Ay ?_ _;refine NoPanic.normal ?_;have HT:=I (HBT W0.drew w1 _ (by exact⟨OI.up.drew,OI.sz,OI.b0,OI.b1,OI.b2,OI.b3⟩) H2 H1);have hb0:BR (w1.setCell (aD (w.heap.size+1+1) 2) (AR vA n0 vc)) w #[(),()] 58:=(BF _ _ _ _ (by simp;omega)).trans ((H2.block _ (by have:=OI.out.sz;simp;omega)).trans OI.b0);have hb1:BR (w1.setCell (aD (w.heap.size+1+1) 2) (AR vA n0 vc)) (w+1) #[false,sN,sN,sN] 161:=(BF _ _ _ _ Az).trans ((H2.block _ (by have:=OI.out.sz;simp;omega)).trans OI.b1);have hb3:BR (w1.setCell (aD (w.heap.size+1+1) 2) (AR vA n0 vc)) (w+1+1+1) #[pT (w+1+1)] 164:=(BF _ _ _ _ Az).trans ((H2.block _ (by have:=OI.out.sz;simp;omega)).trans OI.b3);have Cm:=I (show Up w (w1.setCell (aD (w+1+1) 2) (AR vA n0 vc))from(hUW.trans H2).setCell (p:=aD (w+1+1) 2) (by simp;omega) _);generalize w1.setCell (aD (w+1+1) 2) (AR vA n0 vc)=W2 at*;clear hS1 hS2 GJ hd3 HD2 Yr H1 H2 OI HBT hUW Px;have HB0:=I hb0;have HB1:=I hb1;have hc3:=cell_of_one hb3;clear hb0 hb1 hb3;have hneq:∀W:World,(binOp .neq 166 (.func (.func F) #[] cap) .nilFunc).run Tryz.prog W= .ok true W:=λ_=>Ay
 go_wp2_with fail;cases ro with
 |some v=>
  obtain⟨v,u⟩:=v;refine(uH W2 _ _ Cm J HT).mono ?_;intro e w' q;obtain⟨rfl,hT,hK⟩:=q.Fa rfl;have hz1:=(hK.block w.heap.size (by have:=HT.out.1.sz;omega) J (SQ.low J)).trans HB0;have ho1:=(hK.block (w.heap.size+1) (by have:=HT.out.1.sz;omega) J (SQ.low J)).trans HB1;have hp1:=(Ak (o:=0) (hK.block (w.heap.size+1+1+1) (by have:=HT.out.1.sz;omega) J (SQ.low J))).trans hc3;have hbe:Below w.heap.size w w':=DL (show Below w.heap.size w W2 from Cm) (hK.below (N:=w.heap.size) J J (by have:=HT.out.1.sz;omega));have hsz:w.heap.size+4<=w'.heap.size:=hT.1.sz;have hk:∀k,k≠w.heap.size->hSM (CY w' w.heap.size v u) w' k:=λk hk=>B8 w' w.heap.size k _ _ hk
  have GQ:AX (CY w' w.heap.size v u) (w.heap.size+1+1) (w.heap.size+4) s':=⟨hT.1.low (b:=w.heap.size) J J (by simp[CY]) (λk _ hne=>hk k hne),hT.2⟩;have hz2:=Cp v u hz1;have ho2:=(hk (w.heap.size+1) J).trans ho1;have hp2:=(Ak (o:=0) (hk (w.heap.size+1+1+1) J)).trans hp1;have bH:=hbe.trans (GG w' w.heap.size w.heap.size v u (A9 _));have hsz2:w.heap.size+4<=(CY w' w.heap.size v u).heap.size:=by simpa[CY]using hsz
  have kN:=cI hz1 0;have kN1:=cI hz1 1;have fN:=fI hz1 0;have fN1:=fI hz1 1;unfold encR;clear hk;have HT2:=I GQ;have HZ2:=I hz2;have Jd:=I ho2;have io:=I hp2;have rq:=I bH;have MK:=I hsz2;clear GQ hz2 ho2 hp2 bH hsz2 hT hK hz1 ho1 hp1 hbe hsz q;go_wp2_with fail;rw[show(w'.setCell (aD w 0) (.int .i64 v)).setCell (aD w 1) (.int .i64 u)=CY w' w.heap.size (.int .i64 v) (.int .i64 u)from rfl];generalize CY w' w.heap.size v u=W4 at*;have hl0:V W4 w 0 v:=Ar W4 _ 0 _ _ _ HZ2;have hl1:V W4 w 1 u:=Ar W4 _ 1 _ _ _ HZ2;have hm0:V W4 (w+1) 0 false:=Ar W4 _ 0 _ _ _ Jd;have hm1:V W4 (w+1) 1 sN:=Ar W4 _ 1 _ _ _ Jd;have hm2:V W4 (w+1) 2 sN:=Ar W4 _ 2 _ _ _ Jd;have hm3:V W4 (w+1) 3 sN:=Ar W4 _ 3 _ _ _ Jd;have hfN:W4.frozen? (aD w 0)=false:=D4 W4 _ 0 _ _ HZ2;have AFk:W4.frozen? (aD w 1)=false:=D4 W4 _ 1 _ _ HZ2;have hf0:∀j,W4.frozen? (aD (w+1) j)=false:=λj=>D4 W4 _ j _ _ Jd
  have hg0:=hf0 0;have hg1:=hf0 1;have hg2:=hf0 2;have hg3:=hf0 3;clear hf0 kN fN kN1 fN1 hc3;refine wp_region_noPanic ?_;go_region;refine NoPanic.normal ?_;have HE:=I (vZ HT2 HZ2 Jd io rq MK);clear hl0 hl1 hm0 hm1 hm2 hm3 hfN AFk hg0 hg1 hg2 hg3 HT2 HZ2 Jd io rq MK HT Cm HB0 HB1 uH;rw[show(((((((W4.setCell (aD w 0) (.int .i64 v)).setCell (aD w 1) (.int .i64 u)).setCell (aD (w+1) 0) (.bool false)).setCell (aD (w+1) 1) (.slice none 0 0)).setCell (aD (w+1) 2) (.slice none 0 0)).setCell (aD (w+1) 3) (.slice none 0 0)).drew)=((((((CY W4 w.heap.size (.int .i64 v) (.int .i64 u)).setCell (aD (w+1) 0) (.bool false)).setCell (aD (w+1) 1) (.slice none 0 0)).setCell (aD (w+1) 2) (.slice none 0 0)).setCell (aD (w+1) 3) (.slice none 0 0)).drew)from rfl];generalize((((((CY W4 w.heap.size v u).setCell (aD (w+1) 0) false).setCell (aD (w+1) 1) sN).setCell (aD (w+1) 2) sN).setCell (aD (w+1) 3) sN).drew)=W5 at*;go_wp2_with fail;refine leaves_cons (f:=110) (args:= #[.pointer (some (aD (w+1+1+1) 0)),.pointer (some (aD w 0)),.pointer (some (aD (w+1) 0))]) Az (by simp[go_sem]) ?_;refine(lS w.heap.size (w.heap.size+1+1) (w.heap.size+4) tG s' W5 HE.tp J J J HE.sz HE.pt HE.ou).mono ?_;rintro e u' w9 ⟨rfl,rfl,hout,xC,bD⟩;obtain⟨A,c,N',d,L,e',hblk,hr1,hr2,hr3,hr4⟩:=hout;have k0:=Ar w9 _ 0 _ _ _ (xC.trans HE.go);have k1:=Ar w9 _ 1 _ _ _ (xC.trans HE.go);have j0:=cI hblk 0;have j1:=cI hblk 1;have j2:=cI hblk 2;have j3:=cI hblk 3;simp only[Iv,Is,I6]at k0 k1;have HF:=I (show vx w.heap.size w9 (.agg #[true,AR A s'.acc.length c,AR N' s'.Bi.length d,AR L (Ag s'.loc).length e']) true s' from⟨A,c,N',d,L,e',rfl,hr1,hr2,hr3,hr4⟩);have HB:=I (HE.be.trans bD);clear hblk hr1 hr2 hr3 hr4 bD xC;simp[Leaves,settle,results,Tryz.results82,go_sem,encR,k0,k1,j0,j1,j2,j3];exact⟨HF,HB⟩
 |none=>
  refine(uH W2 _ _ Cm J HT).mono ?_;intro e w' q;obtain⟨rfl,hT,hK⟩:=q.Fd rfl;have hz1:=(hK.block w.heap.size (by have:=HT.out.1.sz;omega) J (SQ.low J)).trans HB0;have ho1:=(hK.block (w.heap.size+1) (by have:=HT.out.1.sz;omega) J (SQ.low J)).trans HB1;have hp1:=(Ak (o:=0) (hK.block (w.heap.size+1+1+1) (by have:=HT.out.1.sz;omega) J (SQ.low J))).trans hc3;have hbe:Below w.heap.size w w':=DL (show Below w.heap.size w W2 from Cm) (hK.below (N:=w.heap.size) J J (by have:=HT.out.1.sz;omega));have hsz:w.heap.size+4<=w'.heap.size:=hT.sz;have HT2:=I hT;have HZ2:=I hz1;have Jd:=I ho1;have io:=I hp1;have rq:=I hbe;have MK:=I hsz;clear hT hK hz1 ho1 hp1 hbe hsz q hc3 HT Cm HB0 HB1 uH;go_wp2_with fail;refine leaves_cons (f:=110) (args:= #[.pointer (some (aD (w+1+1+1) 0)),.pointer (some (aD w 0)),.pointer (some (aD (w+1) 0))]) Az (by simp[go_sem]) ?_;refine(Zn w.heap.size (w.heap.size+1+1) (w.heap.size+4) tG s' w' HT2 J J J (by have:=MK.out;omega) io HZ2 Jd).mono ?_;rintro e u' w9 ⟨rfl,rfl,hout,xC,bD⟩;obtain⟨A,c,N',d,L,e',hblk,hr1,hr2,hr3,hr4⟩:=hout;have k0:=cI xC 0;have k1:=cI xC 1;have j0:=cI hblk 0;have j1:=cI hblk 1;have j2:=cI hblk 2;have j3:=cI hblk 3;have HF:=I (show vx w.heap.size w9 (.agg #[false,AR A s'.acc.length c,AR N' s'.Bi.length d,AR L (Ag s'.loc).length e']) false s' from⟨A,c,N',d,L,e',rfl,hr1,hr2,hr3,hr4⟩);have HB:=I (rq.trans bD);clear hblk hr1 hr2 hr3 hr4 bD xC;simp[Leaves,settle,results,Tryz.results82,go_sem,encR,k0,k1,j0,j1,j2,j3];exact⟨HF,HB⟩
theorem SQ.typ{k:tyN}(h:BR w k cs t)(ht:t≠3/\t≠111/\t≠168):SQ B w k:=λ_ cs' e he=>by
 rw[h]at he;simp only[Dt,Xc,P9]at he;obtain⟨_,rfl⟩:=he;exact ht
theorem TK.kept(h:TK g B w w')(hb:BR w b cs t)(hg:b≠g)(ht:t≠3/\t≠111/\t≠168):BR w' b cs t:=
 (h.block b (gE hb).1 hg (SQ.typ hb ht)).trans hb
theorem A5.far{st:tyI}(h:A5 w g B st s)(hb:BR w b cs t)(hg:g<b)(ht:t≠3/\t≠111/\t≠168)
  (hs:w.heap.size<=w'.heap.size) (hk:∀k,k≠b->k<w.heap.size->hSM w' w k):A5 w' g B st s:=by
 have hgg:=hk g J h.gs
 have hrow:∀e k cs',(e=3\/e=111\/e=168)->B<=k->BR w k cs' e->hSM w' w k:=λe k cs' he hB hh=>hk k (λe2=>by
  subst e2;rw[hb]at hh;simp only[Dt,Xc,P9]at hh;obtain⟨_,rfl⟩:=hh;rcases he with e|e|e
  .exact ht.1 e
  .exact ht.2.1 e
  .exact ht.2.2 e) (gE hh).1
 refine⟨h.gB,DB h.sz hs,(Ak hgg).trans h.c0,λj=>(Fm hgg).trans (h.fz j),?_,?_,?_,?_,h.la,h.lb,h.ll⟩
 .obtain⟨A,c,h1,h2,h3⟩:=h.ans;refine⟨A,c,(Ak hgg).trans h1,Ew h2 (λb' off e hp=>?_),h3⟩;have:=h3 b' off e hp;have:=h.gs;exact hk b' J J
 .obtain⟨v,h1,h2⟩:=h.loc;exact⟨v,(Ak hgg).trans h1,BQ h2 λk cs' hB hh=>hrow _ k cs' (.inl rfl) hB hh⟩
 .obtain⟨v,h1,h2⟩:=h.acc;exact⟨v,(Ak hgg).trans h1,BQ h2 λk cs' hB hh=>hrow _ k cs' (.inr (.inl rfl)) hB hh⟩
 .obtain⟨v,h1,h2⟩:=h.Bi;exact⟨v,(Ak hgg).trans h1,BQ h2 λk cs' hB hh=>hrow _ k cs' (.inr (.inr rfl)) hB hh⟩
theorem AX.far(h:AX w g B s)(hb:BR w b cs t)(hg:g<b)(ht:t≠3/\t≠111/\t≠168)
 (hs:w.heap.size<=w'.heap.size) (hk:∀k,k≠b->k<w.heap.size->hSM w' w k):AX w' g B s:=⟨h.1.far hb hg ht hs hk,h.2⟩
theorem TK.Rb{W:tyW}(h:TK g B W w)(v0 v1:tyV)(hb:W.heap.size<=b):TK g B W (CY w b v0 v1):=
 ⟨h.os,h.tape,h.output,by rw[FM];exact h.size,λk hk hg hf=>(B8 w b k v0 v1 J).trans (h.block k hk hg hf),
  λhg k hk=>h.rows hg k (hk.same (B8 w b g v0 v1 J)),λhg k hk hne hr=>(B8 w b k v0 v1 J).trans (h.keep hg k hk hne hr)⟩
theorem ZU(f:tyN)(o:GU)(op:Op Int)(arg me:tyI)(g B b:tyN)(s0:TS)(W:tyW)(h:AX W g B s0)(hcf:∀(args:Array Value) (W:tyW),(callFunc f args).run Tryz.prog W= .ok (.enter f args) W)
  (hb:BR W b #[.func (.func f) #[] #[]] 226)
  (hf:∀W',Up W W'->AX W' g B s0->Calls Tryz.prog f #[pT g,MG o,me] W' (AP encI g B W' (op.BH s0))):
  Calls Tryz.prog 204 #[pT g,MG o,arg,me,pT b] W (AP encR g B W ((IZ op).BH s0)):=by
 obtain⟨R,hE⟩:=gX ((IZ op).BH s0);rw[hE];have HE:=I hE;unfold MG Ob at*;have hc:=cell_of_one hb;have hblt:=AJ hc;have hu:Up W ((W.alloc (Y (vU o) 132)).alloc (Y #[(),()] 58)):=((AV W).alloc _).alloc _;have hb1:=Ah W (Y (vU o) 132);have hb1:=(((AV (W.alloc (Y (vU o) 132))).alloc (Y #[(),()] 58)).block W.heap.size Az).trans hb1;have hb2:=Ah (W.alloc (Y (vU o) 132)) (Y #[(),()] 58);rw[Cy]at hb2;have hsz:W.heap.size+1<((W.alloc (Y (vU o) 132)).alloc (Y #[(),()] 58)).heap.size:=Az;have hgs:=h.1.gs;have HU:=I hu;have HT:=I (h.up hu);have HQ:=I (hf _ hu (h.up hu));have HB2:=I hb2;have EK:=I (And.intro hsz hgs);have hsb:W.heap.size<((W.alloc (Y (vU o) 132)).alloc (Y #[(),()] 58)).heap.size:=by simp;omega
 have hcW:=(hu.cell (p:=aD b 0) hblt).trans hc;have HB1:=I hb1;clear hb hb1 hb2 hsz hgs h hf hE hu;go_enter Tryz.func204,Tryz.ntmps204;go_upto_region 1 with fail;generalize(W.alloc (Y (vU o) 132)).alloc (Y #[(),()] 58)=W2 at*;go_wp2_with(refine Hl rfl 132 (.tmp 6) rfl W.heap.size rfl 132 _ (0,0) _ HB1 Tryz.underlying132 rfl Ay ?_)
 refine(Aw HQ HE).mono ?_;rintro e w3 (⟨s',rfl,hT,hK,hR⟩|⟨v,s1,rfl,hT,hK,UP⟩)
 .go_wp2
  exact⟨rfl,AP.none hR.out ⟨rfl,hT.out,(TK.Bp HU).trans hK.out⟩⟩
 try dsimp only at UP
 have hb3:=hK.out.kept HB2 (by have:=EK.out;omega) AQ;have HB3:=I hb3;have HT3:=I hT.out;have ic:=I hK.out;have k0:=cI hb3 0;have k1:=cI hb3 1;have f0:=fI hb3 0;have f1:=fI hb3 1;unfold encI;clear hb3 hT hK hc hblt hsb hcW;go_wp2_with fail;refine Gz (v:=encR (v,0)) ?_ rfl (AP.some UP.symm ⟨rfl,?_,?_⟩)
 .exact GV rfl _ _ (W.heap.size+1) 58 _ _ _ rfl (Cp v () HB3) Tryz.underlying58 rfl Ay
 .exact HT3.far HB3 (by have:=EK.out;omega) AQ (Jq (FM _ _ _ _).symm) λk hk _=>B8 w3 _ k _ _ hk
 .exact TK.Rb ((TK.Bp HU).trans ic) _ _ J
structure Mm (w:tyW)(b:tyN)(S5:List GU):Prop where
 row:∀(k:tyN) (o:GU),S5[k]?=some o->w.rangeAt b (k*23) (JE o)
theorem Mm.up{S5:List GU}(h:Mm w b S5)(hb:hSM w' w b):Mm w' b S5:=
 ⟨λk o ho j v hv=>(CI hb).trans (h.row k o ho j v hv)⟩
theorem Lz(q:tyN)(h:q<=1000):Wf (q:tyI):=by
 unfold Wf;exact WalkArith.wf_i64 J
theorem Gk{P:Program}{md:Region.Mode}{ops:Array Oper}{Q:Exit->Act->World->Prop}{S S':World->Prop}(hS:∀w,S' w->S w):
  ∀(fuel:tyN) (listed:Array Bool) (a:Act) (w:tyW),wpAnyH P md ops Q S' fuel listed a w->wpAnyH P md ops Q S fuel listed a w
 |0,_,_,_,h=>h
 |fuel+1,_,_,_,h=>⟨h.1,λi hi=>wpOp_mono (λa' w' h'=>⟨hS _ h'.1,Gk hS fuel _ a' w' h'.2⟩) (h.2 i hi)⟩
theorem cQ(o:GU):((JE o).toArray.all λx=>x.oneCell')=true:=by simp[JE,OM,cP,qT,Value.oneCell']
theorem WU(S5:List GU)(ob n cap:tyN)(q:tyN)(obj arg me:tyI)(i:tyN)(o:GU)(op:Op Int)(g B:tyN)(s0:TS)(W:tyW)(h:AX W g B s0)(hq:1<=q/\q<=17)(nO:(An q).2.2=1)
  (hcf:∀(args:Array Value) (W:tyW),(callFunc (An q).2.1 args).run Tryz.prog W= .ok (.enter (An q).2.1 args) W)
  (xD:obj=(i:tyI)) (hin:i<n) (hn:n<=8) (hcap:n<=cap/\cap<=9223372036854775807) (ho:S5[i]?=some o) (hkind:o.th.kind=((An q).1:tyI)) (Vq:Mm W ob S5) (hlt:ob<W.heap.size)
  (hf:∀W',Up W W'->AX W' g B s0->Calls Tryz.prog (An q).2.1 #[pT g,MG o,me] W' (AP encI g B W' (op.BH s0))):
  Calls Tryz.prog 84 #[pT g,BG ob 0 n cap,.agg #[q,obj,arg],me] W (AP encR g B W ((IZ op).BH s0)):=by
 subst xD;obtain⟨R,hE⟩:=gX ((IZ op).BH s0);rw[hE];have HE:=I hE;clear hE;have hb1:=Ah W (Y #[q,i,arg] 65);have hb1:=(((AV (W.alloc (Y #[q,i,arg] 65))).alloc (Y #[(),()] 58)).block W.heap.size Az).trans hb1;have hb2:=Ah (W.alloc (Y #[q,i,arg] 65)) (Y #[(),()] 58);rw[Cy]at hb2;have hu:Up W ((W.alloc (Y #[q,i,arg] 65)).alloc (Y #[(),()] 58)):=((AV W).alloc _).alloc _;have hsz:((W.alloc (Y #[q,i,arg] 65)).alloc (Y #[(),()] 58)).heap.size=W.heap.size+2:=Az;have hi0:(0:tyI)<=(i:tyI):=J;have hi1:(i:tyI)<(n:tyI):=J;have hi2:((n:tyI)<=(i:tyI))=False:=by simp;omega
 have HR:=I ((Vq.up (hu.block ob hlt)).row i o ho);have HB1:=I hb1;have HB2:=I hb2;have HU:=I hu;have EK:=I hsz;have ip:=I hq;have nP:=I nO;clear hq nO;go_enter Tryz.func84,Tryz.ntmps84;go_upto_region 1 with fail;generalize(W.alloc (Y #[q,i,arg] 65)).alloc (Y #[(),()] 58)=W2 at*;have c0:=cI HB1 0;have c1:=cI HB1 1;have c2:=cI HB1 2;have hlc:W.heap.size<W2.heap.size:=J;clear hb1 hb2 hu hsz Vq hlt ho;go_upto_region 4 with(first|(refine bo rfl 132 (.tmp 26) rfl ob (i*23) ?_ (JE o) _ HR Tryz.underlying132 rfl Ay ?_; · (first|rfl|(simp;done)))|fail)
 rw[show(storeCells ⟨W2.heap.size,0,none⟩ (JE o)).run Tryz.prog _=_ from run_storeCells_new (P:=Tryz.prog) W2 132 GL (JE o).toArray Ay rfl (cQ o)];go_simp;go_upto_region 4 with fail;have bD:=Ah W2 (Y (JE o).toArray 132);have hu2:Up W2 (W2.alloc (Y (JE o).toArray 132)):=(AV W2).alloc _;generalize hzo:W2.heap.size=zo at bD|-;have HZO:=I (And.intro hlc hzo);have HB3:=I (And.intro ((hu2.block W.heap.size hlc).trans HB1) (And.intro ((hu2.block _ (gE HB2).1).trans HB2) bD));have Hg:=I (HU.trans hu2);generalize W2.alloc (Y (JE o).toArray 132)=W3 at*;clear HU HB1 HB2 HR EK bD hu2 hzo c0 c1 c2 hlc hi0 hi1 hi2
 go_cut[10,11,28,29,32,33,34] (λv10 v11 v28 v29 v32 v33 v34 wx=> ∃(zc bx:tyN),v10=pT zc/\v11=true/\Hid (Up W3 wx/\BR wx zc #[O ((An q).1:tyI),.func (.func 204) #[] #[pT bx]] 203/\BR wx bx #[.func (.func (An q).2.1) #[] #[]] 226))
 case first=>
  have c0:=cI HB3.1 0;have Gq:=I (λ(W':tyW) (u:Up W3 W')=>(u.cell (p:=aD W 0) (AJ c0)).trans c0);have hS:V W3.drew W 0 q:=c0;clear c0;refine Br (S:=λw'=>V w' W 0 q) Ay hS (λhS0=>?_);clear hS;refine tq 1 hS0 ?_;refine tq 2 hS0 ?_;refine Dn (rs:=[0,7]) Ay Az ?_;refine BU rfl (λK hK=>?_) (BU rfl (λK hK=>?_) Dp)
  .go_simp;refine(Lt _).mono ?_;rintro e w4 ⟨ML,m,F,rfl,hM,hF,-⟩;have Py:Up W3 w4:=(AV W3).drew.trans ML;obtain⟨v,nQ,hv⟩:=hF q ip.1 ip.2;rw[nP]at hv;obtain⟨bx,hbx,dg,hbh⟩:=hv
   have iq:=I (λ(W':tyW) (e:hSM W' w4 m)=>show(Instr.lookup 205 (.map (some m)) q true).run Tryz.prog W'= .ok (.tuple #[.agg #[O ((An q).1:tyI),.func (.func 204) #[] #[pT bx]],true]) W' from by
    have:=(hM.up e).O5 (q:=(q:tyI)) (Lz q (by have:=ip.out;omega));rw[nQ]at this
    rw[this,<-dg];rfl)
   have ru:=I (show m<w4.heap.size from hM.lt);have HBH:=I hbh;have Pz:=I Py;have Gy:=Gq w4 Py;clear hF nQ dg hbh hM ML hbx Py;refine bk hK Gy λhS1=>?_
   refine Gk (S':=λw'=>V w' W 0 q/\(Instr.lookup 205 (.map (some m)) q true).run Tryz.prog w'= .ok (.tuple #[.agg #[O ((An q).1:tyI),.func (.func 204) #[] #[pT bx]],true]) w') (λ_ h=>h.1) _ _ _ _ ?_;have Vr:=And.intro Gy (iq w4 rfl);refine tq 3 Vr ?_;refine tq 4 Vr ?_;refine tq 5 Vr ?_;refine tq 6 Vr ?_;refine tr 7 λK hK=>?_
   go_simp;have hS5:=And.intro (Gq (w4.alloc (Y #[(),.nilFunc] 203)) (Pz.alloc _)) (iq (w4.alloc (Y #[(),.nilFunc] 203)) (((AV w4).alloc _).block m ru));refine bk hK hS5 λhS6=>?_
   refine tr 8 λK hK=>?_
   go_simp;have rv:=And.intro (Gq (w4.alloc (Y #[O ((An q).1:tyI),.func (.func 204) #[] #[pT bx]] 203)) (Pz.alloc _)) (iq (w4.alloc (Y #[O ((An q).1:tyI),.func (.func 204) #[] #[pT bx]] 203)) (((AV w4).alloc _).block m ru));refine bk hK rv λZE=>?_
   refine tq 9 ZE ?_;refine CN Ay ?_ _
   try simp only[Act.put,DH,DI,DG,Ei,Ef,Ee]
   go_wp2
   go_meet;exact⟨w4.heap.size,bx,rfl,rfl,I ⟨Pz.alloc _,Ah w4 _,(((AV w4).alloc _).block bx (gE HBH).1).trans HBH⟩⟩
  .go_simp;have Gy:=Gq (W3.alloc (Y #[(),.nilFunc] 203)).drew ((AV W3).alloc _).drew;have hzb:(W3.alloc (Y #[(),.nilFunc] 203)).drew.heap[W3.heap.size]?=some (.cells #[(),.nilFunc] 203 (0,0)):=Ah W3 _;refine bk hK Gy λhS1=>?_
   refine tr 0 λK hK=>?_
   go_simp;refine(Lt _).mono ?_;rintro e w4 ⟨ML,m,F,rfl,hM,hF,-⟩;have Py:Up W3 w4:=((AV W3).alloc _).drew.trans ML;obtain⟨v,nQ,hv⟩:=hF q ip.1 ip.2;rw[nP]at hv;obtain⟨bx,hbx,dg,hbh⟩:=hv
   have iq:=I (λ(W':tyW) (e:hSM W' w4 m)=>show(Instr.lookup 205 (.map (some m)) q true).run Tryz.prog W'= .ok (.tuple #[.agg #[O ((An q).1:tyI),.func (.func 204) #[] #[pT bx]],true]) W' from by
    have:=(hM.up e).O5 (q:=(q:tyI)) (Lz q (by have:=ip.out;omega));rw[nQ]at this
    rw[this,<-dg];rfl)
   have ru:=I (show m<w4.heap.size from hM.lt);have HBH:=I hbh;have Pz:=I Py;have hzb:=(ML.block _ (gE hzb).1).trans hzb
   have zE:=I (show W3.heap.size≠m/\W3.heap.size≠bx from by
    have h1:=ML.size;have h2:W3.heap.size+1=(W3.alloc (Y #[(),.nilFunc] 203)).drew.heap.size:=Az;refine⟨λe=>?_,J⟩;obtain⟨D,⟨es,ck,hh,_⟩,_⟩:=hM;rw[<-e,hzb]at hh
    cases hh)
   obtain⟨zb,hz⟩:=gX W3.heap.size;have HZE:=I hz;rw[hz]at hzb zE|-;clear hF nQ dg hbh hM ML hbx Py Gy hz;have rx:=I hzb;have k0:=cI hzb 0;have k1:=cI hzb 1;have f0:=fI hzb 0;have f1:=fI hzb 1;clear hzb;have Gy:=Gq w4 Pz;refine bk hK Gy λhS2=>?_
   refine Gk (S':=λw'=>V w' W 0 q/\(Instr.lookup 205 (.map (some m)) q true).run Tryz.prog w'= .ok (.tuple #[.agg #[O ((An q).1:tyI),.func (.func 204) #[] #[pT bx]],true]) w') (λ_ h=>h.1) _ _ _ _ ?_;have Vr:=And.intro Gy (iq w4 rfl);refine tq 3 Vr ?_;refine tq 4 Vr ?_;refine tq 5 Vr ?_;refine tq 6 Vr ?_;refine tr 8 λK hK=>?_
   go_simp;have nR:∀k,k≠zb->hSM (CY w4 zb (O ((An q).1:tyI)) (.func (.func 204) #[] #[pT bx])) w4 k:=λk hk=>B8 w4 zb k _ _ hk
   have hUp:Up W3 (CY w4 zb (O ((An q).1:tyI)) (.func (.func 204) #[] #[pT bx])):=DL Pz (GG w4 zb W3.heap.size _ _ (Jq HZE));have rv:=And.intro (Gq _ hUp) (iq _ (nR m (Cz zE.1)));refine bk hK rv λZE=>?_
   refine tq 9 ZE ?_;refine CN Ay ?_ _
   try simp only[Act.put,DH,DI,DG,Ei,Ef,Ee]
   go_wp2
   go_meet;exact⟨zb,bx,rfl,rfl,I ⟨hUp,Cp _ _ rx,(nR bx (Cz zE.2)).trans HBH⟩⟩
 case rest=>
  obtain⟨zc,bx,rfl,rfl,HC⟩:=hcut;have Mb:=I (Hg.trans HC.1);have hb1:=(HC.1.block _ (gE HB3.1).1).trans HB3.1;have hb2:=(HC.1.block _ (gE HB3.2.1).1).trans HB3.2.1;have ZC:=I ((HC.1.block _ (gE HB3.2.2).1).trans HB3.2.2);have HB2:=I hb2;have c2:=Ar _ _ 2 _ _ _ hb1;have k0:=Ar _ _ 0 _ _ _ HC.2.1;have k1:=Ar _ _ 1 _ _ _ HC.2.1;have o0:=Ar _ _ 0 _ _ _ ZC;simp only[JE,OM,cP,qT,ak,PL,Iv,Is,I6]at c2 k0 k1 o0;rw[hkind]at o0;have hT:=h.up Mb;have HT:=I hT;have HP:=I (ZU (An q).2.1 o op arg me g B bx s0 wc hT hcf HC.2.2 (λW' u t=>hf W' (Mb.trans u) t));have hgs:=h.1.gs;have MK:=I (show g<W.heap.size+1 from J);generalize(An q).2.1=fq at*;generalize(An q).1=kq at*;unfold MG at HP;rw[jq]at HP;clear hb1 hb2 hT h hf hcf hkind hgs;go_wp2_with(refine Hl rfl 132 (.tmp 9) rfl zo rfl 132 _ (0,0) _ ZC Tryz.underlying132 rfl Ay ?_)
  refine HP.mono ?_;intro e w5 hP;obtain⟨ro,s'⟩:=R;rw[HE]at hP;cases ro with
  |none=>
   obtain⟨rfl,hT1,GQ⟩:=AP.Fd rfl hP;have HF:=I (And.intro hT1 ((TK.Bp Mb).trans GQ));clear hP hT1 GQ HP c2 k0 k1 o0
   go_wp2
   exact⟨rfl,AP.none rfl ⟨rfl,HF.1,HF.2⟩⟩
  |some r=>
   obtain⟨rfl,hT1,GQ⟩:=AP.Fa rfl hP;have hb3:=GQ.kept HB2 (by have:=MK.out;omega) AQ;have nS:=I hb3;have HF:=I (And.intro hT1 ((TK.Bp Mb).trans GQ));have r0:=cI hb3 0;have r1:=cI hb3 1;have f0:=fI hb3 0;have f1:=fI hb3 1;obtain⟨x,y⟩:=r;unfold encR;clear hb3 hT1 GQ hP c2 k0 k1 o0 HP;go_wp2_with fail;refine Gz (v:=encR (x,y)) ?_ rfl (AP.some rfl ⟨rfl,?_,?_⟩)
   .exact GV rfl _ _ (W.heap.size+1) 58 _ _ _ rfl (Cp x y nS) Tryz.underlying58 rfl Ay
   .exact HF.1.far nS (by have:=MK.out;omega) AQ (Jq (FM _ _ _ _).symm) λk hk _=>B8 w5 _ k _ _ hk
   .exact TK.Rb HF.2 _ _ J
def z8 (t:tyI)(lt:Bool)(x:tyI):Bool:= !((x !=0)&&decide (x<=t)&&((x !=t)||lt))
def Passed (ch num:tyI)(me:tyN)(t:tyI)(L:List Item)(j:tyN):Prop:=
 ∃A b e B b' e' x' D,L=A++ .acc (1,ch+(j:tyI),0) b e 0::(B++ .acc (1,num+(j:tyI),0) b' e' x'::D)/\z8 t (decide (j<me)) x'=true
theorem Passed.left{ch num:tyI}{t:tyI}{j:tyN}(h:Passed ch num me t L j)(K:List Item):Passed ch num me t (K++L) j:=by
 obtain⟨A,b,e,B,b',e',x',D,h1,h2⟩:=h;exact⟨K++A,b,e,B,b',e',x',D,by rw[h1,Jt],h2⟩
theorem Passed.right{ch num:tyI}{t:tyI}{j:tyN}(h:Passed ch num me t L j)(K:List Item):Passed ch num me t (L++K) j:=by
 obtain⟨A,b,e,B,b',e',x',D,h1,h2⟩:=h;exact⟨A,b,e,B,b',e',x',D++K,by rw[h1];simp,h2⟩
structure br (n:tyN)(room base:tyI)(me:tyN)(L:List Item)(t:tyI)(p1 b1 e1:tyN)(Lr:List Item)(b2 e2 b3 e3 p2:tyN)(Lw:List Item):Prop where
 eq:∃x1 x2 x3,L= .note 1 p1:: .acc (2,base+(me:tyI),1) b1 e1 x1::(Lr++ .acc (2,base+(n:tyI)+(me:tyI),t) b2 e2 x2:: .acc (2,base+(me:tyI),0) b3 e3 x3:: .note 2 p2::Lw)
 rr:IB Lr []
 max:∀j,j<n->j≠me->∃b e x,Item.acc (1,base+(n:tyI)+(j:tyI),0) b e x∈Lr/\x<t
 pos:1<=t
 room:t<=room
 rw':IB Lw [3]
 pass:∀p3,Item.note 3 p3∈Lw->∀j,j<n->j≠me->Passed base (base+(n:tyI)) me t Lw j
 last:∀p3,Item.note 3 p3∈Lw->∃L1,Lw=L1++[.note 3 p3]
theorem br.order{n:tyN}{room base:tyI}{t:tyI}{p1 b1 e1:tyN}{Lr:List Item}{b2 e2 b3 e3 p2:tyN}{Lw:List Item}(h:br n room base me L t p1 b1 e1 Lr b2 e2 b3 e3 p2 Lw){lo:tyN}(hs:Seq lo L):
  lo<b1/\b1<e1/\(∀a b e x,Item.acc a b e x∈Lr->e1<b/\b<e/\e<b2)/\e1<b2/\b2<e2/\e2<b3/\b3<e3/\e3<p2/\p2<=AM lo L/\Seq p2 Lw/\(∀a b e x,Item.acc a b e x∈Lw->p2<b/\b<e/\e<=AM lo L)/\∀k p,Item.note k p∈Lw->p2<p/\p<=AM lo L:=by
 obtain⟨x1,x2,x3,rfl⟩:=h.eq;obtain⟨q1,q2,q3,q4⟩:=hs;obtain⟨q5,q6,q7,q8,q9,q10,yv⟩:=Seq.append.1 q4;have hl:=Seq.A7 (L:=Lr) q5;have hw:=Seq.A7 (L:=Lw) yv
 have e9:AM lo (.note 1 p1:: .acc (2,base+(me:tyI),1) b1 e1 x1::(Lr++ .acc (2,base+(n:tyI)+(me:tyI),t) b2 e2 x2:: .acc (2,base+(me:tyI),0) b3 e3 x3:: .note 2 p2::Lw))=AM p2 Lw:=by
  show AM e1 (Lr++_)=_;rw[AY];rfl
 rw[e9];refine⟨J,q3,λa b e x hm=>?_,J,q7,q8,q9,q10,hw,yv,λa b e x hm=>yv.acc hm,λk p hm=>yv.note hm⟩;have:=q5.acc hm;exact⟨this.1,this.2.1,J⟩
section
variable {M:MD}{AH:List (List CD)}{H:List Au}{C:Nat->List GC}{room base loc:tyI}{F:tyN}{G:Nat->List Seg}
structure BakCells (M:MD)(n:tyN)(room base:tyI):Prop where
 room1:1<=room
 room2:room<=1048576
 ch:∀j,j<n->(M.fresh (base+(j:tyI))).kind=1/\(M.fresh (base+(j:tyI))).top=1
 num:∀j,j<n->(M.fresh (base+(n:tyI)+(j:tyI))).kind=1/\(M.fresh (base+(n:tyI)+(j:tyI))).top=room
end
variable {α β:Type}
def Op.keeps (i:tyI):Op α->Prop
 | .ret _=>True
 | .ask _ k=> ∀x,(k x).keeps i
 | .get _ k=> ∀x,(k x).keeps i
 | .set j _ k=>j≠i/\k.keeps i
 | .note _ k=>k.keeps i
 | .live k=> ∀b,(k b).keeps i
theorem Op.F9{i:tyI}:∀(o:Op α) (f:α->Op β),o.keeps i->(∀v,(f v).keeps i)->(o.bind f).keeps i
 | .ret v,f,_,h=>h v
 | .ask a k,f,h,h2=>λx=>Op.F9 (k x) f (h x) h2
 | .get j k,f,h,h2=>λx=>Op.F9 (k x) f (h x) h2
 | .set j v k,f,h,h2=>⟨h.1,Op.F9 k f h.2 h2⟩
 | .note c k,f,h,h2=>Op.F9 k f h h2
 | .live k,f,h,h2=>λb=>Op.F9 (k b) f (h b) h2
theorem Uh(l:tyL)(i:tyI):Ac l i=if i<0\/(l.length:tyI)<=i then 0 else l.getD i.toNat 0:=rfl
theorem Oo(l:tyL){k:tyN}(h:l.length<=k):l.getD k 0=0:=by rw[gD,VA h];rfl
theorem Nx(l:tyL)(k:tyN):Ac l k=l.getD k 0:=by
 rw[Uh];split
 .rename_i h;rw[Oo l J]
 .rw[Gl]
theorem CG(l:tyL)(j v i:tyI)(hi:0<=i/\i<32768):Ac (I4 l j v) i=if j=i then v else Ac l i:=by
 obtain⟨k,rfl⟩:∃k:Nat,i=k:=⟨i.toNat,J⟩;rw[Nx,Nx];unfold I4 TS.set;by_cases h1:j<0\/32768<=j
 .rw[AK h1,AI J]
 rw[AI h1];obtain⟨m,rfl⟩:∃m:Nat,j=m:=⟨j.toNat,J⟩;have hm:((m:tyI)=(k:tyI))↔m=k:=J;dsimp only;rw[Gl];by_cases h2:(l.length:tyI)<=m
 .rw[AK h2];by_cases h3:v=0
  .rw[AK h3];by_cases e:m=k
   .subst e;rw[AK rfl,h3,Oo l J]
   .rw[AI J]
  .rw[AI h3];dsimp only;rw[gD,List.getElem?_set];by_cases e:m=k
   .subst e;rw[AK rfl,AK rfl,AK (by simp;omega)];rfl
   .rw[AI e,AI J,gD];rcases CR k l.length with hk|hk
    .rw[IC hk]
    .rw[Gb hk,VA hk,AAZ];split<;>rfl
 .rw[AI h2];dsimp only;rw[gD,List.getElem?_set];by_cases e:m=k
  .subst e;rw[AK rfl,AK rfl,AK J];rfl
  .rw[AI e,AI J,gD]
theorem MM(l:tyL):∀m k,Cj l m<=k->k<m->l.getD k 0=0
 |0,k,_,h=>J
 |m+1,k,h,h2=>by
  unfold Cj at h;split at h
  .rename_i h3;by_cases e:k=m
   .subst e;exact h3
   .exact MM l m k h J
  .omega
theorem F7(l:tyL){i:tyI}(hi:0<=i):Ac (Ag l) i=Ac l i:=by
 obtain⟨k,rfl⟩:∃k:Nat,i=k:=⟨i.toNat,J⟩;rw[Nx,Nx];unfold Ag;rw[gD,Us];by_cases h:k<Cj l l.length
 .rw[AK h,<-gD]
 .rw[AI h];rcases CR k l.length with h2|h2
  .rw[MM l l.length k J h2];rfl
  .rw[Oo l h2];rfl
theorem Path.keeps{i:tyI}(hi:0<=i/\i<32768){o o':Op α}{l l':tyL}(h:Path o l L o' l')(hk:o.keeps i):Ac l' i=Ac l i:=by
 induction h with
 |nil=>rfl
 |get _ ih=>exact ih (hk _)
 |set _ ih=>rw[ih hk.2,CG _ _ _ _ hi,AI hk.1]
 |live _ ih=>exact ih (hk _)
 |note p _ ih=>exact ih hk
 |ask b e x _ ih=>exact ih (hk _)
end
end Go.Proofs.YtpodgcpkccpnfaaGreat
