import Derived.Test.YtpodgcpkccpnfaaGreatPk10
set_option linter.unusedVariables false
set_option linter.unusedSimpArgs false
set_option maxRecDepth 20000
set_option maxHeartbeats 40000000
namespace Go.Proofs.YtpodgcpkccpnfaaGreat
variable{N pc t:Nat}{ow:Nat->Nat}{va vl:Nat->Value}{S:WD}{Z:WK}{W:World}
section
open Go.RowKit
structure AAn (W W1:tyW)(q b:tyN)(me x0 x1 x2:tyI):Prop where
 up:Up W W1
 b0:BR W1 q #[pT b] 69
 b1:BR W1 (q+1) #[me] 3
 b2:BR W1 (q+1+1) #[x0,x1,x2] 65
 sz:W1.heap.size=q+1+1+1
theorem zy(W:tyW)(O1 O2:Obj)(nq:tyN):Up W (((W.alloc O1).alloc O2).drewN nq)/\(((W.alloc O1).alloc O2).drewN nq).heap[W.heap.size]?=some O1/\(((W.alloc O1).alloc O2).drewN nq).heap[W.heap.size+1]?=some O2/\(((W.alloc O1).alloc O2).drewN nq).heap.size=W.heap.size+1+1:=by
 have u1:Up W (W.alloc O1):=(AV W).alloc O1;have u2:Up (W.alloc O1) (((W.alloc O1).alloc O2).drewN nq):=((AV _).alloc O2).drewN nq;have e1:=Ah W O1;have e2:=Ah (W.alloc O1) O2;rw[Cy]at e2;refine⟨u1.trans u2,(u2.block _ Az).trans e1,e2,Az⟩
theorem AAU{W0:tyW}{q b:tyN}{me x0 x1 x2:tyI}(hu:Up W W0)(h0:BR W0 q #[pT b] 69)(h1:BR W0 (q+1) #[me] 3)(hs:W0.heap.size=q+1+1)(hq:W.heap.size=q):
  AAn W (W0.alloc (Y #[x0,x1,x2] 65)).drew q b me x0 x1 x2:=by
 have hu0:Up W0 (W0.alloc (Y #[x0,x1,x2] 65)).drew:=((AV W0).alloc _).drew;have hb:=Ah W0 (Y #[x0,x1,x2] 65);rw[hs]at hb;exact⟨hu.trans hu0,(hu0.block _ J).trans h0,(hu0.block _ J).trans h1,hb,by simp;omega⟩
theorem CU.push{w:tyW}{q j:tyN}{lv:tyV}{l:List D6}{e:D6}(hj:l.length=j)(h:w.ownsRow q 60 7 lv (j+1) (l.flatMap SZ++SZ e)):CU w q lv (l++[e]):=by
 unfold CU;rw[Gx,Y8,hj];simpa using h
def Ha (Z:WK)(N:tyN)(W:tyW)(ow:Nat->Nat)(evs:List D6)(S':WD)(e:Ending)(w':tyW):Prop:= ∃v nT nU SI,e=BA v/\CU w' W.heap.size v evs/\Wd Z w' S' N nT nU SI/\
 (∀k,k<W.heap.size->SI k=ow k)/\(∀k,k<W.heap.size->k≠Z.g->hSM w' W k)/\∀k,v.ownBlock=some k->SI k=0
theorem Wg{n0 N0:tyN}{A Nn L:tyA}(h:(∀b' off,A=some ⟨b',off,none⟩->N0+1<=b')/\(∀b' off,L=some ⟨b',off,none⟩->N0+1<=b')/\(∀b' off,Nn=some ⟨b',off,none⟩->N0+1<=b'))(hn:n0<=N0):∀b off,(A=some ⟨b,off,none⟩\/L=some ⟨b,off,none⟩\/Nn=some ⟨b,off,none⟩)->n0<=b:=λb off e=>by
 rcases e with e|e|e
 .have:=h.1 b off e;omega
 .have:=h.2.1 b off e;omega
 .have:=h.2.2 b off e;omega
theorem fV(l:List (Int×Int))(f:(Int×Int)->D6){nt j:tyN}(h:nt+j<l.length):((l.drop nt).map f).take (j+1)=((l.drop nt).map f).take j++[f (l.getD (nt+j) (0,0))]:=by
 have hj:j<((l.drop nt).map f).length:=by simp;omega
 rw[vE,gG hj];simp[gD,gG h]
theorem fY(l:List (Int×Int))(f:(Int×Int)->D6)(nt:tyN):((l.drop nt).map f).length=l.length-nt:=Az
def FG (S:WD)(t:tyN)(s':TS):List D6:=(s'.Bi.drop (S.AU t).Bi).map (λk=>VK S.now t (S.AU t).next k.1)
theorem gb(H:Wd Z W S N va vl ow)(hZ:bV Z)(ht:t<Z.n){ob:tyA}{on oc pb po pn:tyN}{x0 x1 x2:tyI}
  (hov:Z.ov=AR ob on oc) (hpv:Z.pv t=BG pb po pn pc) (hpn:(S.AU t).next<pn) (hpc:pn<=pc/\pn<=1000000/\pc<=9223372036854775807) (hcall:(S.AU t).call=(x0,x1,x2))
  (hcell:V W pb (po+(S.AU t).next*3) x0/\V W pb (po+(S.AU t).next*3+1) x1/\V W pb (po+(S.AU t).next*3+2) x2)
  (hdo:∀(W2:tyW) (g' B:tyN),Below Z.B Z.w1 W2->(∀k,k<Z.w1.heap.size->ow k=0->hSM W2 Z.w1 k)->Z.w1.heap.size<=g'->AX W2 g' B ⟨(S.AU t).ans,(S.AU t).loc,[],[]⟩->
   Calls Tryz.prog 84 #[pT g',AR ob on oc,.agg #[x0,x1,x2],t] W2 (AP encR g' B W2 ((Z.M.P t (x0,x1,x2)).BH ⟨(S.AU t).ans,(S.AU t).loc,[],[]⟩)))
  (hl0:(S.AU t).loc.length<=32768) (hl1:(S.AU t).ans.length<=5000) (hn1:(S.AU t).Bi<=1000) (r:Option RD×TS) (hr:Co Z.M t (S.AU t)=r) (hn:r.2.Bi.length<=1000) (ha:r.2.acc.length<=100000) (hac:r.1=none->1<=r.2.acc.length) (hll:(Ag r.2.loc).length<=1000000):
  Calls Tryz.prog 57 #[pT Z.b,t] W (Ha Z N W ow (JF Z.M t S) (DX Z.M t S)):=by
 have hE:JF Z.M t S=FG S t r.2++(match r.1 with|none=>[]|some v=>[⟨S.now,2,t,(S.AU t).next,0,v.1,v.2⟩]):=by unfold JF FG;rw[hr];rcases r with⟨_|_,_⟩<;>rfl
 have hS':DX Z.M t S=S.put t (match r.1 with
  |none=>{S.AU t with Bi:=r.2.Bi.length,acc:=r.2.acc.getD (r.2.acc.length-1) (0,0,0),st:=1}
  |some _=>{S.AU t with loc:=Ag r.2.loc,ans:=[],Bi:=0,st:=0,next:=(S.AU t).next+1}):=by unfold DX Gv;rw[hr];rcases r with⟨_|_,_⟩<;>rfl
 rw[hE,hS'];have hp:(Z.M.P t (x0,x1,x2)).BH ⟨(S.AU t).ans,(S.AU t).loc,[],[]⟩=r:=by rw[<-hr];unfold Co;rw[hcall]
 clear hr hE hS' hcall;have b2:V W Z.b 2 (BG Z.g 0 Z.n Z.c1):=H.cb 2 AQ;have b2l:=AJ b2;have HH:=I H;obtain⟨ro,s'⟩:=r;dsimp only at hn ha hac hll|-;have uH:=I hdo;have HP:=I hp;have HAC:=I hac;have h0:(0:tyI)<=(t:tyI):=J;have h1:(t:tyI)<(Z.n:tyI):=J;have hcap:=hZ.cap;have HT:=I ht;have HZ:=I hZ;have UT:=I (And.intro hpn hpc);have jT:=I hcell;have my:=I hov;have iu:=I hpv;have rz:=I (And.intro hn1 (And.intro hn (And.intro ha (And.intro hll (And.intro hl0 hl1)))));have HL2:=I (λnq=>zy W (Y #[pT Z.b] 69) (Y #[t] 3) nq);have HB2:=I (λ(nq:tyN)=>(HL2 nq).1.cell (p:=aD Z.b 2) b2l);clear H hdo hp hac hn1 hn ha hll hl0 hl1 ht hZ hpn hpc hcell hov hpv;go_enter Tryz.func57,Tryz.ntmps57;go_wp2_with fail;go_quiet(fail);rename_i nq;go_upto_region 2 with fail;clear b2 b2l HB2;have HB0:=I (HL2 nq);generalize hW0:(((W.alloc (Y #[pT Z.b] 69)).alloc (Y #[t] 3)).drewN nq)=W0 at HB0|-;clear hW0 HL2;have ZF:=I (show Z.b<W.heap.size/\Z.g<W.heap.size from⟨HH.bt,HH.gt⟩);obtain⟨q,hq⟩:=gX W.heap.size;have HQ:=I hq;rw[hq]at HB0 ZF|-;have wS:=I (HH.grow HB0.1);clear hq;obtain⟨nx,hnx⟩:=gX ((S.AU t).next);have QE:=I hnx;rw[hnx]at UT jT
 have hsu:∀W',Up W0 W'->V W' Z.g (t*11) (BG pb po pn pc)/\V W' Z.g (t*11+1) nx/\V W' pb (po+nx*3) x0/\V W' pb (po+nx*3+1) x1/\V W' pb (po+nx*3+2) x2:=λW' u=>by
  have hw:=wS.grow u;have hu:=HB0.1.trans u;have a0:V W' Z.g (t*11+0) (Z.pv t):=(hw.cg t HT).cell 0 AQ;rw[iu]at a0;have a1:V W' Z.g (t*11+1) (O (S.AU t).next):=(hw.cg t HT).cell 1 AQ;rw[QE]at a1;exact⟨a0,a1,(hu.cell (AJ jT.1)).trans jT.1,(hu.cell (AJ jT.2.1)).trans jT.2.1,(hu.cell (AJ jT.2.2)).trans jT.2.2⟩
 have Gq:=I hsu;have hS:=hsu W0.drew (AV W0).drew;have i0:(0:tyI)<=(nx:tyI):=J;have i1:(nx:tyI)<(pn:tyI):=by have:=UT.out.1;omega
 have i2:=UT.2;have Ys:=I (AAU (x0:=x0) (x1:=x1) (x2:=x2) HB0.1 HB0.2.1 HB0.2.2.1 HB0.2.2.2 HQ);clear hsu hnx;refine Br (S:=λw'=>V w' Z.g (t*11) (BG pb po pn pc)/\V w' Z.g (t*11+1) nx/\V w' pb (po+nx*3) x0/\V w' pb (po+nx*3+1) x1/\V w' pb (po+nx*3+2) x2) Ay hS (λhS0=>?_);clear hS;refine tq 0 hS0 ?_;refine tq 1 hS0 ?_;refine tq 2 hS0 ?_;refine tq 3 hS0 ?_;refine tq 4 hS0 ?_;refine tq 5 hS0 ?_;refine tq 6 hS0 ?_;refine tq 7 hS0 ?_;refine tq 8 hS0 ?_;refine tq 9 hS0 ?_;refine tr 10 λK hK=>?_
 go_simp;refine bk hK (Gq _ ((AV W0).alloc _).drew) λhS1=>?_
 refine tr 11 λK hK=>?_
 go_simp;refine bk hK (Gq _ ((AV W0).alloc _).drew) λhS2=>?_
 refine CN Ay ?_ _
 try simp only[Act.put,DH,DI,DG,Ei,Ef,Ee]
 clear hS0 hS1 hS2 Gq wS i0 i1 i2;generalize(W0.alloc (Y #[x0,x1,x2] 65)).drew=W1 at*;have hzq:=HB0.2.2.2;rw[hzq];clear hzq HB0;have oy:=I (HH.grow Ys.up);obtain⟨rp,hval⟩:=gX (ro.getD (0,0));obtain⟨x,y⟩:=rp;have ABa:=I hval;obtain⟨dn,hdn⟩:=gX ro.isSome;have rX:=I hdn;clear hval hdn;go_wp2_with fail
 go_cut[7,8] (λv pz wx=> ∃(rb zb:tyN) (A:tyA) (c:tyN) (Nn:tyA) (d:tyN) (L:tyA) (e:tyN),v=pT rb/\pz=pT zb/\Hid (Boxed W1 wx rb zb (x,y) dn s' A c Nn d L e))
 case first=>
  have hmf:∀(fn:Fn) (first cap:Array Value) (w:tyW),(Instr.makeFunc fn first cap).run Tryz.prog w= .ok (.func fn first cap) w:=λ_ _ _ _=>rfl
  obtain⟨A0,c0,xE,_,_⟩:=Af (oy.rl t HT);obtain⟨A1,c2,xF,_,_⟩:=Af (oy.ra t HT)
  have hsu:∀W',Up W1 W'->V W' Z.g (t*11+2) (AR A0 (S.AU t).loc.length c0)/\V W' Z.g (t*11+3) (AR A1 (S.AU t).ans.length c2):=λW' u=>by
   have hw:=oy.grow u;have a0:V W' Z.g (t*11+2) (vl t):=(hw.cg t HT).cell 2 AQ;have a1:V W' Z.g (t*11+3) (va t):=(hw.cg t HT).cell 3 AQ;rw[xE]at a0;rw[xF]at a1;exact⟨a0,a1⟩
  have hrl:=oy.rl t HT;have hra:=oy.ra t HT;rw[xE]at hrl;rw[xF]at hra;have Gq:=I hsu
  have US:=I (λ(W:tyW) (hU:Up W1 W)=>zx 83 #[pT q,pT (q+1+1),pT (q+1)] ((Z.M.P t (x0,x1,x2)).BH) (S.AU t).loc (S.AU t).ans A0 A1 c0 c2 W (LR hrl) rz.2.2.2.2.1 rz.2.2.2.2.2 ((TF hrl).up hU) ((TF hra).up hU) (dD hrl)
   (λargs W=>enters Tryz.func83 Ay rfl args W)
   (λW' g' B' hU' hg' hT'=>by
    have uI:=hU.trans hU';have hq1:=(uI.block _ (gE Ys.b0).1).trans Ys.b0;have hq2:=(uI.block _ (gE Ys.b1).1).trans Ys.b1;have hq3:=(uI.block _ (gE Ys.b2).1).trans Ys.b2;have hs1:=Ys.sz;have hs2:=hU.size;have hs3:=ZF.out;have UR:V W' Z.b 0 (AR ob on oc):=by rw[<-my];exact(oy.grow uI).cb 0 AQ
    exact pY g' B' (cell_of_one hq1) ⟨Ar _ _ 0 _ _ _ hq3,Ar _ _ 1 _ _ _ hq3,Ar _ _ 2 _ _ _ hq3⟩ (cell_of_one hq2) UR ⟨J,J,J,J⟩ hT' (λW2 df GQ=>by
     have hw:=oy.grow (uI.trans df)
     exact uH W2 g' B' hw.up hw.ro (by have:=oy.out.up.size;omega) GQ)))
  rw[HP]at US;dsimp only at US;rw[ABa,rX]at US;unfold encR at US;clear uH hsu hrl hra xE xF;have OH:=I (show Up W1 W1.drew from(AV W1).drew);have hS:=Gq W1.drew OH;refine Br (S:=λw'=>V w' Z.g (t*11+2) (AR A0 (S.AU t).loc.length c0)/\V w' Z.g (t*11+3) (AR A1 (S.AU t).ans.length c2)) Ay hS (λhS0=>?_);clear hS;generalize W1.drew=w0 at*;refine tq 0 hS0 ?_;refine tq 1 hS0 ?_;refine tq 2 hS0 ?_;refine tq 3 hS0 ?_;refine tq 4 hS0 ?_;refine tq 5 hS0 ?_;refine tq 6 hS0 ?_;refine tq 7 hS0 ?_;refine tq 8 hS0 ?_;clear hS0;refine vM (F:=λ(A:tyA) (c:tyN) (Nn:tyA) (d:tyN) (L:tyA) (e' rb zb:tyN) (w:tyW)=>Up W1 w/\DD W1.heap.size w rb (Ot 0 0)/\DD W1.heap.size w zb MV/\GZ w s' A Nn L e'/\(∀b off,(A=some ⟨b,off,none⟩\/L=some ⟨b,off,none⟩\/Nn=some ⟨b,off,none⟩)->W1.heap.size<=b)/\Q2 s' A Nn L rb/\Q2 s' A Nn L zb) (G:=?G) (λHT=>?_) ?_;rotate_left
  .refine Dn (rs:=[9,13,14]) Ay Az ?_;refine BU rfl (λK hK=>?_) (BU rfl (λK hK=>?_) (BU rfl (λK hK=>?_) (Dp)))
   .go_simp;refine(US w0 OH).mono ?_;rintro e w1 ⟨ov,rfl,⟨A,c,Nn,d,L,e',rfl,r1,r2,r3,r4,r5,r6⟩,hu2⟩;have GR:=I (OH.trans hu2);have HA1:Hid (GZ w1 s' A Nn L e'):=I ⟨r1,r2,r3,r4⟩;have HG:Hid (∀b off,(A=some ⟨b,off,none⟩\/L=some ⟨b,off,none⟩\/Nn=some ⟨b,off,none⟩)->W1.heap.size<=b):=I (Wg r6 OH.size);have hS:=Gq w1 GR;clear r1 r2 r3 r4 r5 r6 hu2;refine bk hK hS λhS1=>?_
    clear hS;refine tq 10 hS1 ?_;refine tq 11 hS1 ?_;refine tq 12 hS1 ?_;refine Dn (rs:=[13,14]) Ay Az ?_;refine BU rfl (λK hK=>?_) (BU rfl (λK hK=>?_) (Dp))
    .go_simp;have hu2:Up w1 (w1.alloc (Y #[(),()] 58)):=(AV _).alloc _;have Cm:=I (GR.trans hu2);have HR2:Hid (DD W1.heap.size (w1.alloc (Y #[(),()] 58)) w1.heap.size (Ot 0 0)):=I (DD.new GR.size #[(),()] 58);have HA2:=I (HA1.up hu2);have iw:=I (HA1.new (A9 _));have hS:=Gq _ Cm;clear hu2 hS1;refine bk hK hS λhS2=>?_
     clear hS;generalize w1.alloc (Y #[(),()] 58)=w2 at*;generalize w1.heap.size=rb at*;refine tr 14 λK hK=>?_
     .go_simp;have hu2:Up w2 (w2.alloc (Y #[false,sN,sN,sN] 161)):=(AV _).alloc _;have Hg:=I (Cm.trans hu2);have MJ:Hid (DD W1.heap.size (w2.alloc (Y #[false,sN,sN,sN] 161)) w2.heap.size MV):=I (DD.new Cm.size #[false,sN,sN,sN] 161);have ZG:=I (HA2.up hu2);have iy:=I (HA2.new (A9 _));have HR3:=I (HR2.up hu2);have hS:=Gq _ Hg;clear hu2 hS2;refine bk hK hS λGJ=>?_
      clear hS;generalize w2.alloc (Y #[false,sN,sN,sN] 161)=w3 at*;generalize w2.heap.size=zb at*;exact HT A c Nn d L e' rb zb w3 ⟨Hg,HR3,MJ,ZG,HG,iw,iy⟩
    .go_simp;have hu2:Up w1 (w1.alloc (Y #[false,sN,sN,sN] 161)):=(AV _).alloc _;have Cm:=I (GR.trans hu2);have Jd:Hid (DD W1.heap.size (w1.alloc (Y #[false,sN,sN,sN] 161)) w1.heap.size MV):=I (DD.new GR.size #[false,sN,sN,sN] 161);have HA2:=I (HA1.up hu2);have iy:=I (HA1.new (A9 _));have hS:=Gq _ Cm;clear hu2 hS1;refine bk hK hS λhS2=>?_
     clear hS;generalize w1.alloc (Y #[false,sN,sN,sN] 161)=w2 at*;generalize w1.heap.size=zb at*;refine tr 13 λK hK=>?_
     .go_simp;have hu2:Up w2 (w2.alloc (Y #[(),()] 58)):=(AV _).alloc _;have Hg:=I (Cm.trans hu2);have HR3:Hid (DD W1.heap.size (w2.alloc (Y #[(),()] 58)) w2.heap.size (Ot 0 0)):=I (DD.new Cm.size #[(),()] 58);have ZG:=I (HA2.up hu2);have iw:=I (HA2.new (A9 _));have MJ:=I (Jd.up hu2);have hS:=Gq _ Hg;clear hu2 hS2;refine bk hK hS λGJ=>?_
      clear hS;generalize w2.alloc (Y #[(),()] 58)=w3 at*;generalize w2.heap.size=rb at*;exact HT A c Nn d L e' rb zb w3 ⟨Hg,HR3,MJ,ZG,HG,iw,iy⟩
   .go_simp;have hu2:Up w0 (w0.alloc (Y #[(),()] 58)):=(AV _).alloc _;have GR:=I (OH.trans hu2);have HR1:Hid (DD W1.heap.size (w0.alloc (Y #[(),()] 58)) w0.heap.size (Ot 0 0)):=I (DD.new OH.size #[(),()] 58);have hS:=Gq _ GR;clear hu2;refine bk hK hS λhS1=>?_
    clear hS;generalize w0.alloc (Y #[(),()] 58)=w1 at*;generalize w0.heap.size=rb at*;refine Dn (rs:=[9,14]) Ay Az ?_;refine BU rfl (λK hK=>?_) (BU rfl (λK hK=>?_) (Dp))
    .go_simp;refine(US w1 GR).mono ?_;rintro e w2 ⟨ov,rfl,⟨A,c,Nn,d,L,e',rfl,r1,r2,r3,r4,r5,r6⟩,hu2⟩;have Cm:=I (GR.trans hu2);have HA2:Hid (GZ w2 s' A Nn L e'):=I ⟨r1,r2,r3,r4⟩;have HG:Hid (∀b off,(A=some ⟨b,off,none⟩\/L=some ⟨b,off,none⟩\/Nn=some ⟨b,off,none⟩)->W1.heap.size<=b):=I (Wg r6 GR.size);have HR2:=I (HR1.up hu2);have iw:Hid (Q2 s' A Nn L rb):=I (Oq r6 (BP HR1.lt));have hS:=Gq w2 Cm;clear r1 r2 r3 r4 r5 r6 hu2 hS1;refine bk hK hS λhS2=>?_
     clear hS;refine tq 10 hS2 ?_;refine tq 11 hS2 ?_;refine tq 12 hS2 ?_;refine tr 14 λK hK=>?_
     .go_simp;have hu2:Up w2 (w2.alloc (Y #[false,sN,sN,sN] 161)):=(AV _).alloc _;have Hg:=I (Cm.trans hu2);have MJ:Hid (DD W1.heap.size (w2.alloc (Y #[false,sN,sN,sN] 161)) w2.heap.size MV):=I (DD.new Cm.size #[false,sN,sN,sN] 161);have ZG:=I (HA2.up hu2);have iy:=I (HA2.new (A9 _));have HR3:=I (HR2.up hu2);have hS:=Gq _ Hg;clear hu2 hS2;refine bk hK hS λGJ=>?_
      clear hS;generalize w2.alloc (Y #[false,sN,sN,sN] 161)=w3 at*;generalize w2.heap.size=zb at*;exact HT A c Nn d L e' rb zb w3 ⟨Hg,HR3,MJ,ZG,HG,iw,iy⟩
    .go_simp;have hu2:Up w1 (w1.alloc (Y #[false,sN,sN,sN] 161)):=(AV _).alloc _;have Cm:=I (GR.trans hu2);have Jd:Hid (DD W1.heap.size (w1.alloc (Y #[false,sN,sN,sN] 161)) w1.heap.size MV):=I (DD.new GR.size #[false,sN,sN,sN] 161);have HR2:=I (HR1.up hu2);have hS:=Gq _ Cm;clear hu2 hS1;refine bk hK hS λhS2=>?_
     clear hS;generalize w1.alloc (Y #[false,sN,sN,sN] 161)=w2 at*;generalize w1.heap.size=zb at*;refine tr 9 λK hK=>?_
     .go_simp;refine(US w2 Cm).mono ?_;rintro e w3 ⟨ov,rfl,⟨A,c,Nn,d,L,e',rfl,r1,r2,r3,r4,r5,r6⟩,hu2⟩;have Hg:=I (Cm.trans hu2);have ZG:Hid (GZ w3 s' A Nn L e'):=I ⟨r1,r2,r3,r4⟩;have HG:Hid (∀b off,(A=some ⟨b,off,none⟩\/L=some ⟨b,off,none⟩\/Nn=some ⟨b,off,none⟩)->W1.heap.size<=b):=I (Wg r6 Cm.size);have HR3:=I (HR2.up hu2);have iw:Hid (Q2 s' A Nn L rb):=I (Oq r6 (BP HR2.lt));have MJ:=I (Jd.up hu2);have iy:Hid (Q2 s' A Nn L zb):=I (Oq r6 (BP Jd.lt));have hS:=Gq w3 Hg;clear r1 r2 r3 r4 r5 r6 hu2 hS2;refine bk hK hS λGJ=>?_
      clear hS;refine tq 10 GJ ?_;refine tq 11 GJ ?_;refine tq 12 GJ ?_;exact HT A c Nn d L e' rb zb w3 ⟨Hg,HR3,MJ,ZG,HG,iw,iy⟩
   .go_simp;have hu2:Up w0 (w0.alloc (Y #[false,sN,sN,sN] 161)):=(AV _).alloc _;have GR:=I (OH.trans hu2);have dW:Hid (DD W1.heap.size (w0.alloc (Y #[false,sN,sN,sN] 161)) w0.heap.size MV):=I (DD.new OH.size #[false,sN,sN,sN] 161);have hS:=Gq _ GR;clear hu2;refine bk hK hS λhS1=>?_
    clear hS;generalize w0.alloc (Y #[false,sN,sN,sN] 161)=w1 at*;generalize w0.heap.size=zb at*;refine Dn (rs:=[9,13]) Ay Az ?_;refine BU rfl (λK hK=>?_) (BU rfl (λK hK=>?_) (Dp))
    .go_simp;refine(US w1 GR).mono ?_;rintro e w2 ⟨ov,rfl,⟨A,c,Nn,d,L,e',rfl,r1,r2,r3,r4,r5,r6⟩,hu2⟩;have Cm:=I (GR.trans hu2);have HA2:Hid (GZ w2 s' A Nn L e'):=I ⟨r1,r2,r3,r4⟩;have HG:Hid (∀b off,(A=some ⟨b,off,none⟩\/L=some ⟨b,off,none⟩\/Nn=some ⟨b,off,none⟩)->W1.heap.size<=b):=I (Wg r6 GR.size);have Jd:=I (dW.up hu2);have iy:Hid (Q2 s' A Nn L zb):=I (Oq r6 (BP dW.lt));have hS:=Gq w2 Cm;clear r1 r2 r3 r4 r5 r6 hu2 hS1;refine bk hK hS λhS2=>?_
     clear hS;refine tq 10 hS2 ?_;refine tq 11 hS2 ?_;refine tq 12 hS2 ?_;refine tr 13 λK hK=>?_
     .go_simp;have hu2:Up w2 (w2.alloc (Y #[(),()] 58)):=(AV _).alloc _;have Hg:=I (Cm.trans hu2);have HR3:Hid (DD W1.heap.size (w2.alloc (Y #[(),()] 58)) w2.heap.size (Ot 0 0)):=I (DD.new Cm.size #[(),()] 58);have ZG:=I (HA2.up hu2);have iw:=I (HA2.new (A9 _));have MJ:=I (Jd.up hu2);have hS:=Gq _ Hg;clear hu2 hS2;refine bk hK hS λGJ=>?_
      clear hS;generalize w2.alloc (Y #[(),()] 58)=w3 at*;generalize w2.heap.size=rb at*;exact HT A c Nn d L e' rb zb w3 ⟨Hg,HR3,MJ,ZG,HG,iw,iy⟩
    .go_simp;have hu2:Up w1 (w1.alloc (Y #[(),()] 58)):=(AV _).alloc _;have Cm:=I (GR.trans hu2);have HR2:Hid (DD W1.heap.size (w1.alloc (Y #[(),()] 58)) w1.heap.size (Ot 0 0)):=I (DD.new GR.size #[(),()] 58);have Jd:=I (dW.up hu2);have hS:=Gq _ Cm;clear hu2 hS1;refine bk hK hS λhS2=>?_
     clear hS;generalize w1.alloc (Y #[(),()] 58)=w2 at*;generalize w1.heap.size=rb at*;refine tr 9 λK hK=>?_
     .go_simp;refine(US w2 Cm).mono ?_;rintro e w3 ⟨ov,rfl,⟨A,c,Nn,d,L,e',rfl,r1,r2,r3,r4,r5,r6⟩,hu2⟩;have Hg:=I (Cm.trans hu2);have ZG:Hid (GZ w3 s' A Nn L e'):=I ⟨r1,r2,r3,r4⟩;have HG:Hid (∀b off,(A=some ⟨b,off,none⟩\/L=some ⟨b,off,none⟩\/Nn=some ⟨b,off,none⟩)->W1.heap.size<=b):=I (Wg r6 Cm.size);have HR3:=I (HR2.up hu2);have iw:Hid (Q2 s' A Nn L rb):=I (Oq r6 (BP HR2.lt));have MJ:=I (Jd.up hu2);have iy:Hid (Q2 s' A Nn L zb):=I (Oq r6 (BP Jd.lt));have hS:=Gq w3 Hg;clear r1 r2 r3 r4 r5 r6 hu2 hS2;refine bk hK hS λGJ=>?_
      clear hS;refine tq 10 GJ ?_;refine tq 11 GJ ?_;refine tq 12 GJ ?_;exact HT A c Nn d L e' rb zb w3 ⟨Hg,HR3,MJ,ZG,HG,iw,iy⟩
  .intro A c Nn d L e' rb zb w3 hF;have Hg:=I hF.1;have HR3:=I hF.2.1;have MJ:=I hF.2.2.1;have ZG:=I hF.2.2.2.1;have HG:=I hF.2.2.2.2.1;have iw:=I hF.2.2.2.2.2.1;have iy:=I hF.2.2.2.2.2.2;clear hF;refine tr 15 λK hK=>?_
   .have hblk:=HR3.blk;unfold Ot at hblk;have r0:=cI hblk 0;have f0:=fI hblk 0;have r1:=cI hblk 1;have f1:=fI hblk 1;clear hblk;go_simp;have hk:∀k,k≠rb->hSM ((w3.setCell (aD rb 0) (O x)).setCell (aD rb 1) y) w3 k:=λk hk=>B8 w3 rb k _ _ hk
    have Pz:Hid (Up W1 ((w3.setCell (aD rb 0) (O x)).setCell (aD rb 1) y)):=I (Hg.AE5 HR3.ge _ _);have HR4:Hid (DD W1.heap.size ((w3.setCell (aD rb 0) (O x)).setCell (aD rb 1) y) rb (Ot x y)):=I (DD.AEl HR3);have xG:Hid (GZ ((w3.setCell (aD rb 0) (O x)).setCell (aD rb 1) y) s' A Nn L e'):=I (ZG.keep iw (λk hne _=>hk k hne));have y7:=I (MJ.keep (Cz (HR3.ne0 MJ)) hk);have hS:=Gq _ Pz;clear hk r0 f0 r1 f1;refine bk hK hS λGy=>?_
    clear hS;generalize(w3.setCell (aD rb 0) (O x)).setCell (aD rb 1) y=w4 at*;refine tr 16 λK hK=>?_
    .have hblk:=y7.blk;unfold MV at hblk;have r0:=cI hblk 0;have f0:=fI hblk 0;have r1:=cI hblk 1;have f1:=fI hblk 1;have r2:=cI hblk 2;have f2:=fI hblk 2;have r3:=cI hblk 3;have f3:=fI hblk 3;clear hblk;go_simp;have hk:∀k,k≠zb->hSM ((((w4.setCell (aD zb 0) dn).setCell (aD zb 1) (AR A s'.acc.length c)).setCell (aD zb 2) (AR Nn s'.Bi.length d)).setCell (aD zb 3) (AR L (Ag s'.loc).length e')) w4 k:=λk hk=>CO w4 zb k _ _ _ _ hk
     have Kr:Hid (Up W1 ((((w4.setCell (aD zb 0) dn).setCell (aD zb 1) (AR A s'.acc.length c)).setCell (aD zb 2) (AR Nn s'.Bi.length d)).setCell (aD zb 3) (AR L (Ag s'.loc).length e'))):=I (Pz.AFB y7.ge _ _ _ _);have UU:Hid (DD W1.heap.size ((((w4.setCell (aD zb 0) dn).setCell (aD zb 1) (AR A s'.acc.length c)).setCell (aD zb 2) (AR Nn s'.Bi.length d)).setCell (aD zb 3) (AR L (Ag s'.loc).length e')) zb (wC dn s' A Nn L c d e')):=I (DD.AEr y7);have HA5:Hid (GZ ((((w4.setCell (aD zb 0) dn).setCell (aD zb 1) (AR A s'.acc.length c)).setCell (aD zb 2) (AR Nn s'.Bi.length d)).setCell (aD zb 3) (AR L (Ag s'.loc).length e')) s' A Nn L e'):=I (xG.keep iy (λk hne _=>hk k hne));have HR5:=I (HR4.keep (HR4.ne0 y7) hk);have hS:=Gq _ Kr;clear hk r0 f0 r1 f1 r2 f2 r3 f3 Gy;refine bk hK hS λhS5=>?_
     clear hS;generalize(((w4.setCell (aD zb 0) dn).setCell (aD zb 1) (AR A s'.acc.length c)).setCell (aD zb 2) (AR Nn s'.Bi.length d)).setCell (aD zb 3) (AR L (Ag s'.loc).length e')=w5 at*;refine CN Ay ?_ _
     try simp only[Act.put,DH,DI,DG,Ei,Ef,Ee]
     skip
     go_wp2
     go_meet;exact⟨rb,zb,A,c,Nn,d,L,e',rfl,rfl,I ⟨Kr,HR5,UU,HA5,HG⟩⟩
 case rest=>
  obtain⟨rb,zb,A,c,Nn,d,L,e',rfl,rfl,HC⟩:=hcut;have r7:=I (oy.grow HC.up);have KI:=I (Ys.up.trans HC.up);have EK:=I (show W1.heap.size=q+1+1+1/\W1.heap.size<=wc.heap.size from⟨Ys.sz,HC.up.size⟩)
  have HQS:=I (λ(W':tyW) (hU:Up wc W')=>show V W' q 0 (pT Z.b)/\V W' (q+1) 0 t/\V W' Z.g (t*11+1) nx/\V W' Z.b 5 S.now from
   have uI:=HC.up.trans hU;have a1:V W' Z.g (t*11+1) (O (S.AU t).next):=((r7.grow hU).cg t HT).cell 1 AQ
   ⟨cell_of_one ((uI.block _ (gE Ys.b0).1).trans Ys.b0),cell_of_one ((uI.block _ (gE Ys.b1).1).trans Ys.b1),by rw[<-QE];exact a1,(r7.grow hU).cb 5 AQ⟩)
  clear uH HP Ys oy jT my iu h0 h1 hcap;obtain⟨nn,hnn⟩:=gX s'.Bi.length;obtain⟨hn1,hn2,bG,hn4,-,-⟩:=rz.out;rw[hnn]at hn2;have uJ:=I hnn;have g8:V wc Z.g (t*11+8) (O (S.AU t).Bi):=(r7.cg t HT).cell 8 AQ;obtain⟨nt,hnt⟩:∃nt:Nat,(S.AU t).Bi=nt:=⟨_,rfl⟩;have HNT:=I hnt;rw[hnt]at g8 hn1;have zF:=I bG;have HN4:=I hn4;obtain⟨kk,hkk⟩:=gX (nn-nt);have HKL:=I (show(FG S t s').length=kk by unfold FG;rw[fY,uJ,HNT,hkk])
  have z2c:V wc zb 2 (AR Nn nn d):=by
   have:=Ar wc zb 2 _ _ _ HC.out.out.blk;rw[uJ]at this;exact this
  clear hnn hnt rz bG hn4;go_wp2_with fail
  go_loopw[9,10] (λlv iv wr=> ∃j:Nat,j<=kk/\iv=O ((nt+j:tyN):tyI)/\Hid (CU wr wc.heap.size lv ((FG S t s').take j))/\Hid (Up wc wr)) (λ_ t _=>((nn:tyI)-intOf t).toNat)
  case atStart=>exact⟨0,J,Az,I (by rw[kY];exact C3 _ _ _ _),I (AV _)⟩
  case round=>
   obtain⟨j,hj,rfl,HE,HU⟩:=hrel;have z2:=(HU.cell (AJ z2c)).trans z2c;have Ea:=I (show((FG S t s').take j).length=j by rw[Ie,HKL];omega);by_cases hlt:nt+j<nn
   .obtain⟨i,hi⟩:∃i:Nat,nt+j=i:=⟨_,rfl⟩;obtain⟨nb,off,rfl,hx,_⟩:=HC.rows.Bi i (by rw[uJ];omega)
    have oz:=I (show(FG S t s').take (j+1)=(FG S t s').take j++[VK S.now t (S.AU t).next (s'.Bi.getD i (0,0)).1]from by
     rw[<-hi,<-HNT]
     exact fV s'.Bi (λk=>VK S.now t (S.AU t).next k.1) (by rw[uJ,HNT];exact hlt))
    generalize(s'.Bi.getD i (0,0)).1=x9 at*
    have HSI:=I (λ(W:tyW) (hU:Up wc W)=>show V W q 0 (pT Z.b)/\V W (q+1) 0 t/\V W Z.g (t*11+1) nx/\V W Z.b 5 S.now/\V W zb 2 (BG nb off nn d)/\V W nb (off+i*2) x9 from
     ⟨(HQS W hU).1,(HQS W hU).2.1,(HQS W hU).2.2.1,(HQS W hU).2.2.2,(hU.cell (AJ z2c)).trans z2c,(hU.cell (AJ hx)).trans hx⟩)
    obtain⟨xs,hxe⟩:=gX (((FG S t s').take j).flatMap SZ)
    have hxs:wr.ownsRow wc.heap.size 60 7 u9 j xs:=by
     have h:=HE.out;unfold CU at h;rw[Ea,hxe]at h;exact h
    have HXE:=I hxe;obtain⟨Ae,ce,rfl,hce,_⟩:=Af hxs;have xH:=I hxs;have HI2:=I hi;have HJ:=I (show j<kk/\j<=1000 by omega);rw[hi]at hlt;rw[hi];have hlt:(i:tyI)<(nn:tyI):=J;have hw1:wrap64 ((i:tyI)+1)=(i:tyI)+1:=IntWalk.wrap64_in _ J;have r8:=I (show wc.heap.size<=wr.heap.size from HU.size);clear hi hx hxs hxe z2 hj HE;have z2:=(HSI wr HU).2.2.2.2.1;go_wp2_with fail;clear z2;have hS:=HSI wr.drew HU.drew;refine Br (S:=λw'=>V w' q 0 (pT Z.b)/\V w' (q+1) 0 t/\V w' Z.g (t*11+1) nx/\V w' Z.b 5 S.now/\V w' zb 2 (BG nb off nn d)/\V w' nb (off+i*2) x9) Ay hS (λhS0=>?_);clear hS;refine tq 0 hS0 ?_;refine tq 1 hS0 ?_;refine tq 2 hS0 ?_;refine tq 3 hS0 ?_;refine tq 4 hS0 ?_;refine tq 5 hS0 ?_;refine tq 6 hS0 ?_;refine tq 7 hS0 ?_;refine tq 8 hS0 ?_;refine tq 9 hS0 ?_;refine tq 10 hS0 ?_;refine tq 11 hS0 ?_;refine tq 12 hS0 ?_;refine tq 13 hS0 ?_;refine tq 14 hS0 ?_;refine tq 15 hS0 ?_;refine tq 16 hS0 ?_;refine tr 17 λK hK=>?_
    go_simp;refine bk hK (HSI _ ((HU.alloc _).drew)) λhS1=>?_
    refine tr 18 λK hK=>?_
    refine step_append_lies _ rfl (.tmp 51) (.tmp 68) 30 rfl wc.heap.size 60 (gi GF) _ _ _ Tryz.underlying30 (g0 GF) (g1 GF) (g2 GF) (g3 GF) rfl AQ _ j xs rfl (AS xH λk e=>((AV wr).alloc _).drew.block k (xH.lt k e).2) ⟨wr.heap.size,0,none⟩ 1 1 [S.now,O 3,t,nx,x9,(),()] rfl rfl (cR wr _ _) (by simp[Value.oneCell']) AQ (by have:=HJ.out;unfold maxLen;omega) (by have:=HJ.out;omega) (by have:=r8.out;simp;omega) _ rfl ?_;intro g5 cap5 w5 hown5 hg5 IL KJ;have hU5:Up wc w5:=DL ((HU.alloc _).drew) (grownBy_below hg5 (by have:=r8.out;simp;omega) (DS xH));have Kr:=I hU5
    have UQ:Hid (CU w5 wc.heap.size (BG g5 0 (j+1) cap5) ((FG S t s').take (j+1))):=I (by
     rw[oz,QE];refine CU.push Ea ?_;rw[HXE]
     exact hown5)
    clear hown5 hg5 IL KJ hU5;refine bk hK (HSI _ Kr) λhS2=>?_
    refine tq 19 hS2 ?_;refine CN Ay ?_ _
    try simp only[Act.put,DH,DI,DG,Ei,Ef,Ee]
    clear hS0 hS1 hS2
    go_wp2
    go_roundw
    case rel=>exact⟨j+1,by have:=HJ.out;omega,by have:=HI2.out;simp;omega,UQ,Kr⟩
    case measure=>simp[intOf];omega
   .obtain rfl:j=kk:=J;have HBr:=I (r7.grow HU);have g8r:V wr Z.g (t*11+8) nt:=(HU.cell (AJ g8)).trans g8;have f8r:=HBr.fg (t*11+8);have hps:Wd Z wr (S.put t (S.AU t)) N va vl ow:=by rw[WP];exact HBr
    have jU:=I (hps.oV (j:=8) HT AQ (O nn) {S.AU t with Bi:=nn} (λi hi=>by match i,hi with|0,_|1,_|2,_|3,_|4,_|5,_|6,_|7,_|8,_|9,_|10,_=>rfl) rfl rfl);have HZG:=I (show Z.g<W1.heap.size from by have:=ZF.out;have:=EK.out;omega);have SF:=I (λ(k:tyN) (hk:k≠Z.g)=>show hSM (wr.setCell (aD Z.g (t*11+8)) (O nn)) wr k from BF wr ⟨Z.g,t*11+8,none⟩ _ k hk)
    have zG:Hid (CU wr wc.heap.size u9 (FG S t s')):=by
     have h:=HE.out;rw[Ni (Jq HKL.out)]at h;exact I h
    clear hlt hj hps HE Ea;cases ro with
    |none=>
     have hdn:=rX.out;simp only[Option.isSome_none]at hdn;subst hdn;go_upto_region 10 with fail;clear g8r f8r z2;generalize hW9:wr.setCell (aD Z.g (t*11+8)) (O nn)=W9 at jU SF|-;clear hW9;obtain⟨m,hm⟩:∃m,s'.acc.length=m+1:=⟨s'.acc.length-1,by have:=HAC.out rfl;omega⟩;obtain⟨ab,AFo,rfl,h0,h1,h2⟩:=HC.rows.acc m J;have hga:=HC.ge ab AFo (.inl rfl);have hgz:=HC.out.out.ge;have hzg:=HZG.out;have hblk:=(SF zb J).trans ((HU.block zb HC.out.out.lt).trans HC.out.out.blk);have z0:=Ar W9 zb 0 _ _ _ hblk;have z1:=Ar W9 zb 1 _ _ _ hblk;simp only[Iv,Is,I6,hm]at z0 z1;have a0:=((Ak (SF ab J)).trans (HU.cell (AJ h0))).trans h0;have a1:=((Ak (SF ab J)).trans (HU.cell (AJ h1))).trans h1;have a2:=((Ak (SF ab J)).trans (HU.cell (AJ h2))).trans h2;have KH:=I (show s'.acc.getD (s'.acc.length-1) (0,0,0)=s'.acc.getD m (0,0,0) by rw[hm];rfl);have hm3:m<100000:=by have:=zF.out;omega
     clear h0 h1 h2 hblk hm hga hgz hzg;obtain⟨⟨k0,k1,k2⟩,hkq⟩:∃q,s'.acc.getD m (0,0,0)=q:=⟨_,rfl⟩;rw[hkq]at a0 a1 a2 KH;dsimp only at a0 a1 a2;clear hkq;have hwm:wrap64 (((m+1:tyN):tyI)-1)=(m:tyI):=by rw[IntWalk.wrap64_in _ J];omega
     have bI:=(jU.cg t HT).cell;rw[BE]at bI;have c4:V W9 Z.g (t*11+4) (O (S.AU t).acc.1):=bI 4 AQ;have c5:V W9 Z.g (t*11+5) (O (S.AU t).acc.2.1):=bI 5 AQ;have c6:V W9 Z.g (t*11+6) (O (S.AU t).acc.2.2):=bI 6 AQ;have c7:V W9 Z.g (t*11+7) (O (S.AU t).st):=bI 7 AQ;have f4:=jU.fg (t*11+4);have f5:=jU.fg (t*11+5);have f6:=jU.fg (t*11+6);have f7:=jU.fg (t*11+7);have xG:=I (jU.oV (j:=4) HT AQ k0 {S.AU t with Bi:=nn,acc:=(k0,(S.AU t).acc.2.1,(S.AU t).acc.2.2)} (λi hi=>by match i,hi with|0,_|1,_|2,_|3,_|4,_|5,_|6,_|7,_|8,_|9,_|10,_=>rfl) rfl rfl);have HA5:=I (xG.oV (j:=5) HT AQ k1 {S.AU t with Bi:=nn,acc:=(k0,k1,(S.AU t).acc.2.2)} (λi hi=>by match i,hi with|0,_|1,_|2,_|3,_|4,_|5,_|6,_|7,_|8,_|9,_|10,_=>rfl) rfl rfl);have HA6:=I (HA5.oV (j:=6) HT AQ k2 {S.AU t with Bi:=nn,acc:=(k0,k1,k2)} (λi hi=>by match i,hi with|0,_|1,_|2,_|3,_|4,_|5,_|6,_|7,_|8,_|9,_|10,_=>rfl) rfl rfl);have HA7:=I (HA6.oV (j:=7) HT AQ (O 1) {S.AU t with Bi:=nn,acc:=(k0,k1,k2),st:=1} (λi hi=>by match i,hi with|0,_|1,_|2,_|3,_|4,_|5,_|6,_|7,_|8,_|9,_|10,_=>rfl) rfl rfl)
     have xI:=I (λ(k:tyN) (hk:k≠Z.g)=>show hSM ((((W9.setCell (aD Z.g (t*11+4)) k0).setCell (aD Z.g (t*11+5)) k1).setCell (aD Z.g (t*11+6)) k2).setCell (aD Z.g (t*11+7)) (O 1)) wr k from by
      rw[BF _ _ _ _ hk,BF _ _ _ _ hk,BF _ _ _ _ hk,BF _ _ _ _ hk]
      exact SF k hk)
     have HXE:=I (show CU ((((W9.setCell (aD Z.g (t*11+4)) k0).setCell (aD Z.g (t*11+5)) k1).setCell (aD Z.g (t*11+6)) k2).setCell (aD Z.g (t*11+7)) (O 1)) q u9 (FG S t s')from by
      refine Da (AS zG λk e=>xI k (λe2=>?_)) ?_
      .have:=(CX zG.out k e).1;have:=HZG.out;have:=EK.out;omega
      .have:=EK.out;omega)
     have ii:=I (λ(k:tyN) (hk:k<q) (hg:k≠Z.g)=>(xI k hg).trans ((HU.block k (by have:=EK.out;omega)).trans (KI.block k (by rw[HQ];exact hk))));have HOW:=I (λ(k:tyN) (e:Value.ownBlock u9=some k)=>r7.free (CX zG k e).1);clear xG HA5 HA6 jU SF bI xI
     go_wp2
     go_ret;unfold Ha;rw[HQ];refine⟨u9,va,vl,ow,rfl,?_,?_,λ_ _=>rfl,ii,HOW⟩
     .exact HXE
     .have hgd:=KH.out;rw[gD]at hgd;rw[hgd,uJ];exact HA7
    |some v0=>
     obtain⟨v1,v2⟩:=v0;have hval:=ABa.out;simp only[Option.getD_some,bc]at hval;obtain⟨rfl,rfl⟩:=hval;have hdn:=rX.out;simp only[Option.isSome_some]at hdn;subst hdn;go_upto_region 10 with fail;clear g8r f8r z2;obtain⟨W9,hW9⟩:=gX (wr.setCell (aD Z.g (t*11+8)) (O nn));have hs9:wr.heap.size<=W9.heap.size:=by rw[<-hW9];simp
     rw[hW9]at jU SF|-;clear hW9;have hgz:=HC.out.out.ge;have hgr:=HC.YU.ge;have hzg:=HZG.out;have hblk:=(SF zb J).trans ((HU.block zb HC.out.out.lt).trans HC.out.out.blk);have xJ:=(SF rb J).trans ((HU.block rb HC.YU.lt).trans HC.YU.blk);have z0:=cI hblk 0;have bI:=(jU.cg t HT).cell;rw[BE]at bI;have dh:=I (show q+1<wc.heap.size/\rb<wc.heap.size/\zb<wc.heap.size/\Z.b<wc.heap.size/\Z.g<wc.heap.size from⟨by have:=EK.out;omega,HC.YU.lt,HC.out.out.lt,r7.bt,r7.gt⟩)
     have xK:=I (show V W9 q 0 (pT Z.b)/\V W9 (q+1) 0 t/\V W9 Z.g (t*11+1) nx/\V W9 Z.b 5 S.now/\V W9 rb 0 v1/\V W9 rb 1 v2 from
      have hQ:=HQS wr HU;have a1:V W9 Z.g (t*11+1) (O (S.AU t).next):=bI 1 AQ
      ⟨(Ak (SF q (by have:=ZF.out;omega))).trans hQ.1,(Ak (SF (q+1) (by have:=ZF.out;omega))).trans hQ.2.1,by rw[<-QE];exact a1,jU.cb 5 AQ,Ar W9 rb 0 _ _ _ xJ,Ar W9 rb 1 _ _ _ xJ⟩)
     have r9:=I hblk
     have hx9:W9.ownsRow wc.heap.size 60 7 u9 j ((FG S t s').flatMap SZ):=by
      have h:=AS zG λk e=>SF k (by have:=(CX zG.out k e).1;have:=EK.out;omega)
      rw[HKL]at h;exact h
     obtain⟨xs,hxe⟩:=gX ((FG S t s').flatMap SZ);rw[hxe]at hx9;have HXN:=I hxe;obtain⟨Ae,ce,rfl,hce,_⟩:=Af hx9;have xH:=I hx9;have r8:=I (show wc.heap.size<=W9.heap.size from DB HU.size hs9);have HJ:=I (show j<=1000 by omega)
     have uC:=I (λ(W:tyW) (hB:Below wc.heap.size W9 W)=>show V W q 0 (pT Z.b)/\V W (q+1) 0 t/\V W Z.g (t*11+1) nx/\V W Z.b 5 S.now/\V W rb 0 v1/\V W rb 1 v2 from
      ⟨(Ak (hB.block q (by have:=dh.out;omega))).trans xK.1,(Ak (hB.block (q+1) (by have:=dh.out;omega))).trans xK.2.1,(Ak (hB.block Z.g (by have:=dh.out;omega))).trans xK.2.2.1,(Ak (hB.block Z.b (by have:=dh.out;omega))).trans xK.2.2.2.1,(Ak (hB.block rb (by have:=dh.out;omega))).trans xK.2.2.2.2.1,(Ak (hB.block rb (by have:=dh.out;omega))).trans xK.2.2.2.2.2⟩)
     have HBA:=I (show Below wc.heap.size W9 (W9.alloc (Y #[S.now,O 2,t,nx,(),v1,v2] 60)).drew from(Below.alloc (Hx _ _) r8 _).drew);clear hx9 hblk xJ hgz hgr hzg hs9 hce hxe bI zG;go_wp2_with fail;clear z0;have hS:V W9.drew q 0 (pT Z.b)/\V W9.drew (q+1) 0 t/\V W9.drew Z.g (t*11+1) nx/\V W9.drew Z.b 5 S.now/\V W9.drew rb 0 v1/\V W9.drew rb 1 v2:=xK;refine Br (S:=λw'=>V w' q 0 (pT Z.b)/\V w' (q+1) 0 t/\V w' Z.g (t*11+1) nx/\V w' Z.b 5 S.now/\V w' rb 0 v1/\V w' rb 1 v2) Ay hS (λhS0=>?_);clear hS;refine tq 0 hS0 ?_;refine tq 1 hS0 ?_;refine tq 2 hS0 ?_;refine tq 3 hS0 ?_;refine tq 4 hS0 ?_;refine tq 5 hS0 ?_;refine tq 6 hS0 ?_;refine tq 7 hS0 ?_;refine tq 8 hS0 ?_;refine tq 9 hS0 ?_;refine tq 10 hS0 ?_;refine tq 11 hS0 ?_;refine tr 12 λK hK=>?_
     go_simp;refine bk hK (uC _ HBA) λhS1=>?_
     refine tr 13 λK hK=>?_
     refine step_append_lies _ rfl (.tmp 94) (.tmp 106) 30 rfl wc.heap.size 60 (gi GF) _ _ _ Tryz.underlying30 (g0 GF) (g1 GF) (g2 GF) (g3 GF) rfl AQ _ j xs rfl (AS xH λk e=>((AV W9).alloc _).drew.block k (xH.lt k e).2) ⟨W9.heap.size,0,none⟩ 1 1 [S.now,O 2,t,nx,(),v1,v2] rfl rfl (cR W9 _ _) (by simp[Value.oneCell']) AQ (by have:=HJ.out;unfold maxLen;omega) (by have:=HJ.out;omega) (by have:=r8.out;simp;omega) _ rfl ?_;intro g5 cap5 w5 hown5 hg5 IL KJ;have FA:=I (show Below wc.heap.size W9 w5 from DL HBA (grownBy_below hg5 (by have:=r8.out;simp;omega) (DS xH)))
     have UU:Hid (CU w5 wc.heap.size (BG g5 0 (j+1) cap5) (FG S t s'++[⟨S.now,2,t,nx,0,v1,v2⟩])):=I (by
      refine CU.push HKL ?_;rw[HXN]
      exact hown5)
     clear hown5 hg5 IL KJ;refine bk hK (uC _ FA) λhS2=>?_
     refine tq 14 hS2 ?_;refine CN Ay ?_ _
     try simp only[Act.put,DH,DI,DG,Ei,Ef,Ee]
     clear hS0 hS1 hS2;have HN5:=I (r7.below r8 jU FA);have hb5:=(FA.block zb (by have:=dh.out;omega)).trans r9;have z3:=cI hb5 3
     have uK:Row w5 L (Ag s'.loc).length (Bl (Ag s'.loc)):=Ew HC.rows.loc (λb' off e hp=>by
      have h1:=HC.ge b' off (.inr (.inl e));obtain⟨b2,Kn,e2,hc2⟩:=HC.rows.loc 0 hp;rw[e]at e2;cases e2
      have h2:=AJ hc2;have h3:=HZG.out
      exact(FA.block b' h2).trans ((SF b' J).trans (HU.block b' h2)))
     have Px:=I (Li (Ag s'.loc) L e' w5 HC.rows.nil uK HN4);clear hb5 uK;go_wp2_with fail;refine Px.mono ?_;rintro e w6 ⟨v6,rfl,y9,Kb⟩;obtain⟨A6,c6,rfl,_,_⟩:=Af y9;clear z3 Px;have uL:=I (HN5.grow Kb);have ABg:=Da y9 (show Z.B<=w5.heap.size from HN5.sz);have hv6:∀k,Value.ownBlock (AR A6 (Ag s'.loc).length c6)=some k->w5.heap.size<=k:=λk e=>(y9.lt k e).1
     have hnew:∀k,Value.ownBlock (AR A6 (Ag s'.loc).length c6)=some k->ow k=0/\Z.w1.heap.size<=k:=λk e=>by
      have h1:=hv6 k e;exact⟨HN5.free h1,DB HN5.up.size h1⟩
     have hc6:=(uL.cg t HT).cell;rw[BE]at hc6;have c1':V w6 Z.g (t*11+1) nx:=by rw[<-QE];exact hc6 1 AQ
     have c2':V w6 Z.g (t*11+2) (vl t):=hc6 2 AQ;have c3':V w6 Z.g (t*11+3) (va t):=hc6 3 AQ;have c7':V w6 Z.g (t*11+7) (O (S.AU t).st):=hc6 7 AQ;have c8':V w6 Z.g (t*11+8) (O nn):=hc6 8 AQ;have f1:=uL.fg (t*11+1);have f2:=uL.fg (t*11+2);have f3:=uL.fg (t*11+3);have f7:=uL.fg (t*11+7);have f8:=uL.fg (t*11+8);have HA2:=I (uL.stL HT ABg hnew);have ZG:=I (HA2.AEv HT);have HA8:=I (ZG.oV (j:=8) HT AQ (O (0:tyN)) {S.AU t with Bi:=0,loc:=Ag s'.loc,ans:=[]} (λi hi=>by match i,hi with|0,_|1,_|2,_|3,_|4,_|5,_|6,_|7,_|8,_|9,_|10,_=>rfl) rfl rfl);have HA7:=I (HA8.oV (j:=7) HT AQ () {S.AU t with Bi:=0,loc:=Ag s'.loc,ans:=[],st:=0} (λi hi=>by match i,hi with|0,_|1,_|2,_|3,_|4,_|5,_|6,_|7,_|8,_|9,_|10,_=>rfl) rfl rfl);have HA1:=I (HA7.oV (j:=1) HT AQ (O ((S.AU t).next+1:tyN)) {S.AU t with Bi:=0,loc:=Ag s'.loc,ans:=[],st:=0,next:=(S.AU t).next+1} (λi hi=>by match i,hi with|0,_|1,_|2,_|3,_|4,_|5,_|6,_|7,_|8,_|9,_|10,_=>rfl) rfl rfl);rw[QE]at HA1
     have hwx:wrap64 ((nx:tyI)+1)=((nx+1:tyN):tyI):=by
      have:=UT.out;rw[IntWalk.wrap64_in _ J];omega
     have xI:=I (λ(k:tyN) (hk:k≠Z.g)=>show hSM (((((w6.setCell (aD Z.g (t*11+2)) (AR A6 (Ag s'.loc).length c6)).setCell (aD Z.g (t*11+3)) sN).setCell (aD Z.g (t*11+8)) ()).setCell (aD Z.g (t*11+7)) ()).setCell (aD Z.g (t*11+1)) (O (nx+1:tyN))) w6 k from by
      rw[BF _ _ _ _ hk,BF _ _ _ _ hk,BF _ _ _ _ hk,BF _ _ _ _ hk,BF _ _ _ _ hk])
     have di:=I (Da (AS UU λk e=>(xI k (by have h1:=(CX UU k e).1;have:=HZG.out;have:=EK.out;omega)).trans (Kb.block k (CX UU k e).2)) (show q<=wc.heap.size by have:=EK.out;omega));have ii:=I (λ(k:tyN) (hk:k<q) (hg:k≠Z.g)=>(xI k hg).trans ((Kb.block k (by have:=r8.out;have:=FA.size;have:=EK.out;omega)).trans ((FA.block k (by have:=EK.out;omega)).trans ((SF k hg).trans ((HU.block k (by have:=EK.out;omega)).trans (KI.block k (by rw[HQ];exact hk)))))))
     have HOW:=I (λ(k:tyN) (e:Value.ownBlock (BG g5 0 (j+1) cap5)=some k)=>show(if Value.ownBlock (AR A6 (Ag s'.loc).length c6)=some k then 5+2*t else ow k)=0 from by
      have h1:=CX UU k e;rw[AI (λe2=>by have:=hv6 k e2;omega)]
      exact r7.free h1.1)
     have HOO:=I (λ(k:tyN) (hk:k<q)=>show(if Value.ownBlock (AR A6 (Ag s'.loc).length c6)=some k then 5+2*t else ow k)=ow k from AI (λe2=>by have:=hv6 k e2;have:=r8.out;have:=FA.size;have:=EK.out;omega));clear HA2 ZG HA8 HA7 y9 ABg hv6 Kb uL xI UU HN5 hc6 hnew
     go_wp2
     go_ret;unfold Ha;rw[HQ];refine⟨_,(λi=>if i=t then sN else va i),(λi=>if i=t then(AR A6 (Ag s'.loc).length c6)else vl i),_,rfl,?_,?_,HOO,ii,HOW⟩
     .rw[QE];exact di
     .rw[QE];exact HA1
def Ex (Z:WK)(N:tyN)(W:tyW)(ow:Nat->Nat)(evs:List D6)(S':WD)(e:Ending)(w':tyW):Prop:= ∃v nT nU SI N',e=BA v/\CU w' W.heap.size v evs/\N'<=N+9/\Wd Z w' S' N' nT nU SI/\
 (∀k,k<W.heap.size->SI k=ow k)/\(∀k,k<W.heap.size->ow k=0->hSM w' W k)/\∀k,v.ownBlock=some k->SI k=0
theorem CU.nil(w:tyW)(q:tyN):CU w q sN []:=C3 _ _ _ _
theorem PC{n:tyN}(h:n<=1000000000):wrap64 ((n:tyI)+1)=((n+1:tyN):tyI):=by rw[IntWalk.wrap64_in _ J];omega
theorem Wd.tick(H:Wd Z W S N va vl ow):Wd Z (W.setCell (aD Z.b 5) (O (S.now+1:tyN))) S.tick N va vl ow:=
 H.AAC (j:=5) AQ (O (S.now+1:tyN)) (dr:=S.drawn) (nw:=S.now+1) (λi hi=>by match i,hi with|0,_|1,_|2,_|3,_|4,_|5,_=>rfl)
theorem Wd.kf(H:Wd Z W S N va vl ow)(h:S.now<=1000000000):∃n1:Nat,wrap64 ((S.now:tyI)+1)=(n1:tyI)/\Wd Z (W.setCell (aD Z.b 5) n1) S.tick N va vl ow:=
 ⟨S.now+1,PC h,H.tick⟩
theorem Qw(H:Wd Z W S N va vl ow)(hZ:bV Z)(ht:t<Z.n)(FU:S.now<=1000000000){PA:tyA}(hpv:Z.pv t=AR PA (S.AU t).prog.length pc)(hpl:(S.AU t).prog.length<=1000000)
  (ho:(S.AU t).CV=true\/((S.AU t).CV=false/\(S.AU t).st=0/\(S.AU t).prog.length<=(S.AU t).next)):
  Calls Tryz.prog 26 #[pT Z.b,t] W (Ex Z N W ow [] S.tick):=by
 have HAT:=I (G4 Z.b Z.g Z.n Z.c1 t W (H.cb 2 AQ) ht hZ.n8 hZ.cap);have b5:V W Z.b 5 S.now:=H.cb 5 AQ;have f5:=H.fb 5;obtain⟨n1,hw,Gp⟩:=H.kf FU;have HN:=I Gp;have HKK:=I (λ(k:tyN) (hk:ow k=0)=>show hSM (W.setCell (aD Z.b 5) n1) W k from BF W ⟨Z.b,5,none⟩ _ k (λe=>by rw[e,H.ob]at hk;cases hk));have hcg:=(Gp.cg t ht).cell;rcases ho with ho|⟨hh,hst,hov⟩
 .have g10:V (W.setCell (aD Z.b 5) n1) Z.g (t*11+10) true:=by have h:=hcg 10 AQ;rw[<-ho];exact h
  clear hcg Gp H ho hpv hpl ht hZ FU;go_enter Tryz.func26,Tryz.ntmps26;go_wp2_with fail;refine Ej 0 rfl (λAC hJ=>?_);go_wp2_with fail;refine HAT.mono ?_;rintro e w1 ⟨rfl,rfl⟩
  go_wp2
  go_ret;exact⟨_,va,vl,ow,N,rfl,CU.nil _ _,J,HN,λ_ _=>rfl,λk _ h=>HKK k h,λk e=>by cases e⟩
 .have g10:V (W.setCell (aD Z.b 5) n1) Z.g (t*11+10) false:=by have h:=hcg 10 AQ;rw[<-hh];exact h
  have g7:V (W.setCell (aD Z.b 5) n1) Z.g (t*11+7) ():=by have h:=hcg 7 AQ;rw[<-hst];exact h
  have g1:V (W.setCell (aD Z.b 5) n1) Z.g (t*11+1) (O (S.AU t).next):=hcg 1 AQ;have g0:V (W.setCell (aD Z.b 5) n1) Z.g (t*11) (AR PA (S.AU t).prog.length pc):=by rw[<-hpv];exact hcg 0 AQ
  obtain⟨nx,hnx⟩:=gX ((S.AU t).next);obtain⟨pl,nV⟩:=gX ((S.AU t).prog.length);rw[hnx]at g1 hov;rw[nV]at g0 hov hpl;have hov:(pl:tyI)<=(nx:tyI):=J;clear hcg Gp H hst hh hpv ht hZ FU hnx nV;go_enter Tryz.func26,Tryz.ntmps26;go_wp2_with fail;refine Ej 0 rfl (λAC hJ=>?_);go_wp2_with fail;refine HAT.mono ?_;rintro e w1 ⟨rfl,rfl⟩;go_upto_region 10 with fail;generalize w1.setCell (aD Z.b 5) n1=W1 at*;go_wp2_with fail;go_quiet(fail)
  go_wp2
  go_ret;exact⟨_,va,vl,ow,N,rfl,CU.nil _ _,J,HN.grow ((AV _).drewN _),λ_ _=>rfl,λk _ h=>HKK k h,λk e=>by cases e⟩
theorem YZ(H:Wd Z W S N va vl ow)(hZ:bV Z)(ht:t<Z.n)(FU:S.now<=1000000000)(hh:(S.AU t).CV=false)(hst:(S.AU t).st=1)(hN:N<=90000):
  Calls Tryz.prog 26 #[pT Z.b,t] W (Ex Z N W ow [] (Cb Z.M t S.tick)):=by
 have HAT:=I (G4 Z.b Z.g Z.n Z.c1 t W (H.cb 2 AQ) ht hZ.n8 hZ.cap);have b5:V W Z.b 5 S.now:=H.cb 5 AQ;have f5:=H.fb 5;obtain⟨n1,hw,Gp⟩:=H.kf FU;have OI:=I (Rq Gp hZ ht hN);have HOW:=I (show ow Z.b=1/\ow Z.g=2 from⟨H.ob,H.og⟩);have EK:=I (show(W.setCell (aD Z.b 5) n1).heap.size=W.heap.size by simp);have HKK:=I (λ(k:tyN) (hk:ow k=0)=>show hSM (W.setCell (aD Z.b 5) n1) W k from BF W ⟨Z.b,5,none⟩ _ k (λe=>by rw[e,H.ob]at hk;cases hk));have hcg:=(Gp.cg t ht).cell;have g10:V (W.setCell (aD Z.b 5) n1) Z.g (t*11+10) false:=by have h:=hcg 10 AQ;rw[<-hh];exact h
 have g7:V (W.setCell (aD Z.b 5) n1) Z.g (t*11+7) (O 1):=by have h:=hcg 7 AQ;rw[<-hst];exact h
 clear hcg Gp H hst hh ht hZ FU hN;go_enter Tryz.func26,Tryz.ntmps26;go_wp2_with fail;refine Ej 1 rfl (λAC hJ=>?_);go_wp2_with fail;refine HAT.mono ?_;rintro e w1 ⟨rfl,rfl⟩;go_wp2_with fail
 go_step3
 refine⟨rfl,hJ.out _ _ ?_⟩;go_wp2_with fail;refine OI.mono ?_;rintro e w3 ⟨rfl,SI,h3,h4,h5⟩;rw[EK]at h4 h5;have H3:=I (And.intro h3 (And.intro h4 h5));clear h3 h4 h5 g7 g10 OI b5 f5
 go_wp2
 go_ret;exact⟨_,va,vl,SI,N+9,rfl,CU.nil _ _,J,H3.1,H3.2.1,λk hk h0=>(H3.2.2 k hk (by rw[h0];decide) (λe=>by rw[e,HOW.2]at h0;cases h0)).trans (HKK k h0),λk e=>by cases e⟩
theorem Dm{P:Program}{ops:Array Oper}{rest:List Oper}{o:Oper}{a:Act}{Q:Exit->Act->World->Prop}{w:tyW}(hgd:o.guard=none)(s x:Operand)(t:TypeId)
  (ho:o.op= .call {callee:= .builtin .append,args:= #[s,x],argTypes:= #[t,t]})
  (B:tyN) (e:TypeId) (i:TypeInfo) (z:tyV) (size bytes:tyN) (ht:P.underlying t=some (.slice e)) (hi:P.info? e=some i) (hz:i.zero=some z)
  (hsize:i.size=size) (hby:i.bytes=bytes) (hzs:z.cells.size=size) (hsz:0<size)
  (v:tyV) (n:tyN) (xs:List Value) (hs:a.eval s=v) (hown:w.ownsRow B e size v n xs)
  (B2:tyN) (v2:tyV) (m:tyN) (ys:List Value) (hx:a.eval x=v2) (hown2:w.ownsRow B2 e size v2 m ys) (h1:∀u∈ys,u.oneCell'=true)
  (hb1:0<bytes) (hbytes:(n+m)*bytes<=140737488355328) (hB:B<=w.heap.size)
  (h:∀v' w',w'.ownsRow B e size v' (n+m) (xs++ys)->w.grownBy w' v.ownBlock->Below B w w'->(v'.ownBlock=v.ownBlock\/v'.ownBlock=some w.heap.size)->wpList P ops Q rest (a.put o.dst v') w'):
  wpList P ops Q (o::rest) a w:=by
 have h63:n+m<=maxLen:=by
  have:n+m<=(n+m)*bytes:=TE _ hb1;unfold maxLen;omega
 rcases hown2.2 with⟨rfl,rfl⟩|⟨g,cap,cur,rfl,hg,hh,hcap,hmax,hsz2,hcells⟩
 .have hys:ys=[]:=bX (by have:=hown2.1;omega);subst hys;refine wpList_append_own_none hgd s x t ho B e i size ht hi v n xs hs hown hx ?_;exact h v w (Cw hown) (World.grownBy.refl w _) (Hx _ _) (.inl rfl)
 .refine wpList_append_own_at (w:=w) hgd s x t ho B e i z size bytes ht hi hz hsize hby hzs hsz v n xs hs hown ⟨g,0,none⟩ m cap ys hx hown2.1 ?_ h1 h63 hbytes hB ?_
  .intro j u hu;rw[JC,Dw,Ar w g j _ _ _ hh];rw[<-hcells,Us]at hu;split at hu
   .simpa using hu
   .cases hu
  .intro v' w' hown' hgr _ hat;exact h v' w' hown' hgr (grownBy_below hgr hB (DS hown)) hat
theorem Wd.je{W':tyW}{v:tyV}(H:Wd Z W S N va vl ow)(hv:∀k,v.ownBlock=some k->ow k=0/\Z.w1.heap.size<=k)(G:W.grownBy W' v.ownBlock)(hB:Below Z.B W W'):Wd Z W' S N va vl ow:=
 H.keep hB (λk hk h=>G.block k hk (λe=>h (hv k e.symm).1)) (λk hk _=>G.block k (B5 hk H.up.size) (λe=>by have:=(hv k e.symm).2;omega))
def kG (M:MD)(t:tyN)(S1:WD):WD:=if(S1.AU t).st=1 then Cb M t S1 else S1
theorem ar{S1:WD}{evs:List D6}(H:Wd Z W S N va vl ow)(hZ:bV Z)(ht:t<Z.n)(FU:S.now<=1000000000)(hh:(S.AU t).CV=false)(hst:(S.AU t).st=0)(hN:N<=90000)
  {PA:tyA}  (hpv:Z.pv t=AR PA (S.AU t).prog.length pc) (hpl:(S.AU t).prog.length<=1000000) (hov:(S.AU t).next<(S.AU t).prog.length)
  (Yt:∀W2,Wd Z W2 S.tick N va vl ow->Calls Tryz.prog 57 #[pT Z.b,t] W2 (Ha Z N W2 ow evs S1)) (hev:evs.length<=2000):
  Calls Tryz.prog 26 #[pT Z.b,t] W (Ex Z N W ow (Ms t S.tick::evs) (kG Z.M t S1)):=by
 have HAT:=I (G4 Z.b Z.g Z.n Z.c1 t W (H.cb 2 AQ) ht hZ.n8 hZ.cap);have b5:V W Z.b 5 S.now:=H.cb 5 AQ;have f5:=H.fb 5;obtain⟨n1,hn1⟩:=gX (S.now+1);have hw:=PC FU;have Gp:=H.tick;rw[hn1]at hw Gp;have HN:=I Gp;have HKK:=I (λ(k:tyN) (hk:ow k=0)=>show hSM (W.setCell (aD Z.b 5) n1) W k from BF W ⟨Z.b,5,none⟩ _ k (λe=>by rw[e,H.ob]at hk;cases hk));have uM:=I (show ow Z.b=1/\ow Z.g=2 from⟨H.ob,H.og⟩);have hcg:=(Gp.cg t ht).cell;have g10:V (W.setCell (aD Z.b 5) n1) Z.g (t*11+10) false:=by have h:=hcg 10 AQ;rw[<-hh];exact h
 have g7:V (W.setCell (aD Z.b 5) n1) Z.g (t*11+7) ():=by have h:=hcg 7 AQ;rw[<-hst];exact h
 have g1:V (W.setCell (aD Z.b 5) n1) Z.g (t*11+1) (O (S.AU t).next):=hcg 1 AQ;have g0:V (W.setCell (aD Z.b 5) n1) Z.g (t*11) (AR PA (S.AU t).prog.length pc):=by rw[<-hpv];exact hcg 0 AQ
 have hsz:(W.setCell (aD Z.b 5) n1).heap.size=W.heap.size:=Az;obtain⟨nx,hnx⟩:=gX ((S.AU t).next);obtain⟨pl,nV⟩:=gX ((S.AU t).prog.length);have jT:=I (show Ms t S.tick=⟨n1,1,t,nx,0,0,0⟩ by unfold Ms WD.tick;rw[<-hn1,<-hnx]);rw[hnx]at g1 hov;rw[nV]at g0 hov hpl;have hov':(nx:tyI)<(pl:tyI):=J;have US:=I Yt;have Ks:=I (And.intro hev (And.intro hN ht));have xL:=I (And.intro hn1 hnx);have HZ:=I hZ;clear hcg H Gp hst hh hpv ht hZ FU hnx nV hov Yt hev hn1 hN;go_enter Tryz.func26,Tryz.ntmps26;go_wp2_with fail;refine Ej 0 rfl (λAC hJ=>?_);go_wp2_with fail;refine HAT.mono ?_;rintro e w1 ⟨rfl,rfl⟩;go_upto_region 10 with fail;have EK:=I hsz;clear hsz HAT b5 f5;generalize w1.setCell (aD Z.b 5) n1=W1 at*;go_wp2_with fail;go_quiet(fail);rename_i nq;go_wp2_with fail;have xM:=I (HN.grow ((AV W1).drewN nq));have HKQ:=I (λ(k:tyN) (hk:ow k=0)=>show hSM (W1.drewN nq) w1 k from HKK k hk);have o6:=I (show(W1.drewN nq).heap.size=w1.heap.size from EK);clear g10 g7 g1 g0 HN HKK EK;generalize W1.drewN nq=W2 at*
 have hsu:∀W',Up W2 W'->V W' Z.b 5 n1/\V W' Z.g (t*11+1) nx:=λW' u=>by
  have a0:V W' Z.b 5 (O (S.now+1:tyN)):=(xM.grow u).cb 5 AQ;have a1:V W' Z.g (t*11+1) (O (S.AU t).next):=((xM.grow u).cg t Ks.2.2).cell 1 AQ;rw[xL.1]at a0;rw[xL.2]at a1;exact⟨a0,a1⟩
 have Gq:=I hsu;have hS:=hsu W2.drew (AV W2).drew;have HEVR:=I (show W2.drew.heap.size=W2.heap.size from rfl);obtain⟨i0,hi',hz0,hz1,hz2⟩:=info_parts GF;have V8:=I hi';have HZ0:=I hz0;have HZ1:=I hz1;have HZ2:=I hz2;have zF:=I (λ(W':tyW) (u:Up W2 W')=>US W' (xM.grow u));clear hsu hi' hz0 hz1 hz2 US;refine Br (S:=λw'=>V w' Z.b 5 n1/\V w' Z.g (t*11+1) nx) Ay hS (λhS0=>?_);clear hS;refine tq 0 hS0 ?_;refine tq 1 hS0 ?_;refine tq 2 hS0 ?_;refine tq 3 hS0 ?_;refine tq 4 hS0 ?_;refine tq 5 hS0 ?_;refine tq 6 hS0 ?_;refine tq 7 hS0 ?_;refine tq 8 hS0 ?_;refine tq 9 hS0 ?_;refine tq 10 hS0 ?_;refine tr 11 λK hK=>?_
 go_simp;refine bk hK (Gq _ (((AV W2).alloc _).drew)) λhS1=>?_
 refine tr 12 λK hK=>?_
 refine step_append_lies _ rfl (.tmp 41) (.tmp 52) 30 rfl W2.heap.size 60 i0 (.agg #[(),(),(),(),(),(),()]) 7 56 Tryz.underlying30 V8 HZ0 HZ1 HZ2 rfl AQ _ 0 [] rfl (C3 _ _ _ _) ⟨W2.heap.size,0,none⟩ 1 1 [n1,O 1,t,nx,(),(),()] rfl rfl (cR W2 _ _) (by simp[Value.oneCell']) AQ (by unfold maxLen;decide) AQ Az _ rfl ?_;intro g5 cap5 w5 hown5 hg5 IL KJ;have Kr:=I (show Up W2 w5 from DL ((AV W2).alloc _).drew (grownBy_below hg5 Az (DS (C3 W2 W2.heap.size 60 7))));have UU:Hid (CU w5 W2.heap.size (BG g5 0 1 cap5) [⟨n1,1,t,nx,0,0,0⟩]):=I (CU.push (l:=[]) rfl hown5);clear hown5 hg5 IL KJ;refine bk hK (Gq _ Kr) λhS2=>?_
 refine tq 13 hS2 ?_;refine CN Ay ?_ _
 try simp only[Act.put,DH,DI,DG,Ei,Ef,Ee]
 clear hS0 hS1 hS2 Gq;have HP5:=I (zF w5 Kr);clear zF;go_wp2_with fail
 go_step3
 refine⟨rfl,hJ.out _ _ ?_⟩;go_wp2_with fail;refine HP5.mono ?_;rintro e w6 ⟨v,nT,nU,SI,rfl,hE,hW,hO,hF,hV⟩;have HGT:=I xM.gt;have HR6:=I (AS UU λk e=>hF k (CX UU k e).2 (λe2=>by have:=(CX UU.out k e).1;have:=HGT.out;omega));have HE6:=I hE;have HW6:=I hW
 have HQ5:=I (show SI g5=0/\W2.heap.size<=g5/\g5<w5.heap.size from by
  have h:=CX UU g5 rfl
  exact⟨(hO g5 h.2).trans (xM.free h.1),h.1,h.2⟩)
 have HZS:=I xM.up.size;have uN:=I xM.sz;have xN:=I (show W2.heap.size<=w6.heap.size from by have:=(CX HR6.out g5 rfl).2;have:=HQ5.out;omega)
 have xO:=I (λ(k:tyN) (hk:k<w1.heap.size) (h0:ow k=0)=>show hSM w6 w1 k/\SI k=0 from by
  have h1:k<W2.heap.size:=by rw[o6];exact hk
  have h2:k<w5.heap.size:=B5 h1 Kr.size
  exact⟨(hF k h2 (λe=>by rw[e,uM.2]at h0;cases h0)).trans ((Kr.block k h1).trans (HKQ k h0)),(hO k h2).trans h0⟩)
 have OJ:=I (λ(k:tyN) (hk:k<w1.heap.size)=>hO k (B5 (by rw[o6];exact hk) Kr.size))
 have yw:=I (λ(v7:tyV) (h:v7.ownBlock=Value.ownBlock (BG g5 0 1 cap5)\/v7.ownBlock=some w6.heap.size) (k:tyN) (e:v7.ownBlock=some k)=>show SI k=0 from by
  rcases h with h|h
  .rw[h]at e;cases e
   exact HQ5.1
  .rw[h]at e;cases e
   exact HW6.free (A9 _))
 have HRW:=I (λ(v7:tyV) (w7:tyW) (h:w7.ownsRow W2.heap.size 60 7 v7 (1+evs.length) ([.int .i64 n1,.int .i64 1,.int .i64 t,.int .i64 nx,.int .i64 0,.int .i64 0,.int .i64 0]++evs.flatMap SZ))=>show CU w7 w1.heap.size v7 (Ms t S.tick::evs)from by
  rw[jT];unfold CU;rw[Qy,Nat.add_comm,It,<-o6]
  exact h)
 have sA:=I (λ(v7:tyV) (w7:tyW) (h1:w7.ownsRow W2.heap.size 60 7 v7 (1+evs.length) ([.int .i64 n1,.int .i64 1,.int .i64 t,.int .i64 nx,.int .i64 0,.int .i64 0,.int .i64 0]++evs.flatMap SZ)) (h2:w6.grownBy w7 (Value.ownBlock (BG g5 0 1 cap5))) (h3:Below W2.heap.size w6 w7) (h4:v7.ownBlock=Value.ownBlock (BG g5 0 1 cap5)\/v7.ownBlock=some w6.heap.size)=>
  show Wd Z w7 S1 N nT nU SI/\(∀k,v7.ownBlock=some k->SI k=0)/\CU w7 w1.heap.size v7 (Ms t S.tick::evs)/\(∀k,k<w1.heap.size->ow k=0->hSM w7 w1 k)/\W2.heap.size<=w7.heap.size from
   ⟨HW6.je (v:=BG g5 0 1 cap5) (λk e=>by cases e;exact⟨HQ5.1,DB HZS HQ5.2.1⟩) h2 (KX h3 uN),yw v7 h4,HRW v7 w7 h1,λk hk h0=>(h3.block k (by rw[o6];exact hk)).trans (xO k hk h0).1,DB xN h3.size⟩)
 clear hE hW hO hF hV HP5;by_cases hs1:(S1.AU t).st=1
 .have jV:=I (show kG Z.M t S1=Cb Z.M t S1 from AK hs1);go_wp2_with(at_builtin;refine Dm rfl (.tmp 88) (.tmp 91) 30 rfl W2.heap.size 60 i0 (.agg #[(),(),(),(),(),(),()]) 7 56 Tryz.underlying30 V8 HZ0 HZ1 HZ2 rfl AQ _ 1 [n1,O 1,t,nx,(),(),()] rfl HR6 _ _ evs.length (evs.flatMap SZ) rfl HE6 (NL evs) AQ (by have:=Ks.out.1;omega) xN ?_;intro v7 w7 Le SG Yu SH;have H7:=I (sA v7 w7 Le SG Yu SH);clear HR6 HE6 Le SG Yu SH;have g7:V w7 Z.g (t*11+7) (O 1):=(by have h:=(H7.1.cg t Ks.2.2).cell 7 AQ;rw[<-hs1];exact h))
  refine wp_label ?_;go_wp2_with fail;refine(Rq H7.1 HZ Ks.2.2 Ks.2.1).mono ?_;rintro e w8 ⟨rfl,ow8,h8,h9,h10⟩;have H8:=I (And.intro h8 (And.intro h9 h10));clear h8 h9 h10 g7
  go_wp2
  go_ret;rw[jV];refine⟨v7,nT,nU,ow8,N+9,rfl,AS H7.2.2.1 λk e=>?_,J,H8.1,λk hk=>(H8.2.1 k (by have:=H7.out.2.2.2.2;have:=o6.out;omega)).trans (OJ k hk),λk hk h0=>?_,λk e=>?_⟩
  .exact H8.2.2 k (CX H7.2.2.1 k e).2 (by rw[H7.2.1 k e];decide) (λe2=>by have h1:=H7.2.1 k e;rw[e2,HW6.og]at h1;cases h1)
  .have h1:=(xO k hk h0).2;exact(H8.2.2 k (by have:=H7.out.2.2.2.2;have:=o6.out;omega) (by rw[h1];decide) (λe2=>by rw[e2,HW6.og]at h1;cases h1)).trans (H7.2.2.2.1 k hk h0)
  .exact(H8.2.1 k (CX H7.2.2.1 k e).2).trans (H7.2.1 k e)
 .have jV:=I (show kG Z.M t S1=S1 from AI hs1);have hs2:((S1.AU t).st !=1)=true:=by rw[Ol];exact hs1
  go_wp2_with(at_builtin;refine Dm rfl (.tmp 88) (.tmp 91) 30 rfl W2.heap.size 60 i0 (.agg #[(),(),(),(),(),(),()]) 7 56 Tryz.underlying30 V8 HZ0 HZ1 HZ2 rfl AQ _ 1 [n1,O 1,t,nx,(),(),()] rfl HR6 _ _ evs.length (evs.flatMap SZ) rfl HE6 (NL evs) AQ (by have:=Ks.out.1;omega) xN ?_;intro v7 w7 Le SG Yu SH;have H7:=I (sA v7 w7 Le SG Yu SH);clear HR6 HE6 Le SG Yu SH;have g7:V w7 Z.g (t*11+7) (O (S1.AU t).st):=(H7.1.cg t Ks.2.2).cell 7 AQ)
  go_ret;rw[jV];exact⟨v7,nT,nU,SI,N,rfl,H7.2.2.1,J,H7.1,OJ,H7.2.2.2.1,H7.2.1⟩
end
end Go.Proofs.YtpodgcpkccpnfaaGreat
