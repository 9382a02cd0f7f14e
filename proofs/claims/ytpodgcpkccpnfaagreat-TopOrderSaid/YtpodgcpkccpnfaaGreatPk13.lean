import Derived.Test.YtpodgcpkccpnfaaGreatPk12
set_option linter.unusedVariables false
set_option linter.unusedSimpArgs false
set_option maxRecDepth 20000
set_option maxHeartbeats 40000000
namespace Go.Proofs.YtpodgcpkccpnfaaGreat
variable{b:Nat}{w w' w0:World}
section
open Go.RowKit
def Bc (AW:tyI)(n room:tyI):List SD:=[⟨n,1,1⟩]
def G3 (AW:tyI)(n:tyI):Int:=n
def ER (AW:tyI):Int:=0
structure NP (w0 wr:tyW)(b:tyN)(AW n mode base loc room:tyI):Prop where
 up:Up w0 wr
 blk:BR wr b #[AW,n,mode,base,loc,room] 128
theorem NP.go{AW n mode base loc room:tyI}(h:NP w0 w b AW n mode base loc room)(u:Up w w'):NP w0 w' b AW n mode base loc room:=⟨h.up.trans u,(u.block b (gE h.blk).1).trans h.blk⟩
theorem NP.new(u:Up w0 w)(AW n mode base loc room:tyI):NP w0 (w.alloc (Y #[AW,n,mode,base,loc,room] 128)) w.heap.size AW n mode base loc room:=⟨u.trans ((AV w).alloc _),Ah w _⟩
theorem NP.cells{AW n mode base loc room:tyI}(h:NP w0 w b AW n mode base loc room):
  V w b 0 AW/\V w b 1 n/\V w b 2 mode/\V w b 3 base/\V w b 4 loc/\V w b 5 room:=
 ⟨Ar _ _ 0 _ _ _ h.blk,Ar _ _ 1 _ _ _ h.blk,Ar _ _ 2 _ _ _ h.blk,Ar _ _ 3 _ _ _ h.blk,Ar _ _ 4 _ _ _ h.blk,Ar _ _ 5 _ _ _ h.blk⟩
theorem MY(AW n mode base loc room:tyI)(w:tyW)(hn:1<=n/\n<=8):
  Calls Tryz.prog 340 #[.agg #[AW,n,mode,base,loc,room]] w λe w'=>(∃v,e=BA v/\BK w' w.heap.size v [⟨n,1,1⟩])/\Up w w':=by
 have HB:=I (NP.new (AV w) AW n mode base loc room);have HS:=I (λW=>J0 n AW mode base loc room W hn);obtain⟨c0,c1,c2,c3,c4,c5⟩:=HB.cells;clear hn;go_enter Tryz.func340,Tryz.ntmps340;go_wp2_with fail;refine(HS _).mono ?_;rintro e w1 ⟨rfl,hu1⟩;have HB1:=I (HB.go hu1);clear hu1 c0 c1 c2 c3 c4 c5;go_wp2_with fail;have HR:=I (qX w1 [⟨n,1,1⟩] Az);go_ret;exact⟨⟨_,rfl,Da HR HB1.up.size⟩,HB1.up.trans ((AV w1).alloc _)⟩
theorem AAD(AW n mode base loc room:tyI)(w:tyW)(hn:1<=n/\n<=8):
  Calls Tryz.prog 337 #[.agg #[],.agg #[AW,n,mode,base,loc,room]] w λe w'=>(∃v,e=BA v/\BK w' w.heap.size v [⟨n,1,1⟩])/\Up w w':=by
 have HB:=I (NP.new ((AV w).alloc (Y #[] 242)) AW n mode base loc room);have HS:=I (λW=>MY AW n mode base loc room W hn);obtain⟨c0,c1,c2,c3,c4,c5⟩:=HB.cells;rw[Cy]at c0 c1 c2 c3 c4 c5;clear hn;go_enter Tryz.func337,Tryz.ntmps337;go_wp2_with fail;refine(HS _).mono ?_;rintro e w1 ⟨⟨v,rfl,hv⟩,hu1⟩;have HV:=I (Da hv HB.up.size);have HB1:=I (HB.go hu1).up;clear hu1 c0 c1 c2 c3 c4 c5 hv
 go_wp2
 go_ret;exact⟨⟨_,rfl,HV⟩,HB1⟩
theorem aT(AW n mode base loc room:tyI)(w:tyW)(hn:1<=n/\n<=8):
  Calls Tryz.prog 336 #[.agg #[],.agg #[AW,n,mode,base,loc,room]] w λe w'=>e=BA (.tuple #[n,(),true])/\Up w w':=by
 have HB:=I (NP.new ((AV w).alloc (Y #[] 242)) AW n mode base loc room);have HS:=I (λW=>MY AW n mode base loc room W hn)
 have HC:=I (λ(W:tyW) (A:tyA) (c:tyN) (h:Dx W A [⟨n,1,1⟩])=>show Calls Tryz.prog 330 #[AR A 1 c] W (λe w'=>e=BA n/\Up W w')from by
  have:=Sf [⟨n,1,1⟩] A c W Az h (λi hi=>by
   obtain rfl:i=0:=by simpa using hi
   show 0<=n/\n<=1000;omega)
  rwa[show C8 [⟨n,1,1⟩]=n by simp[C8]]at this)
 obtain⟨c0,c1,c2,c3,c4,c5⟩:=HB.cells;rw[Cy]at c0 c1 c2 c3 c4 c5;clear hn;go_enter Tryz.func336,Tryz.ntmps336;go_wp2_with fail;refine(HS _).mono ?_;rintro e w1 ⟨⟨v,rfl,hv⟩,hu1⟩;obtain⟨A,c,rfl,hat⟩:=hv.at';have HAT:=I hat;have HB1:=I (HB.go hu1).up;clear hu1 c0 c1 c2 c3 c4 c5 hv hat;go_wp2_with fail;refine(HC _ _ _ HAT).mono ?_;rintro e w2 ⟨rfl,hu2⟩;have HB2:=I (HB1.trans hu2);clear hu2 HAT
 go_wp2
 go_ret3;exact⟨rfl,HB2⟩
theorem YR(n mode base loc room:tyI)(w:tyW)(hn:1<=n/\n<=8):Calls Tryz.prog 104 #[.agg #[O 2,n,mode,base,loc,room]] w λe w'=>(∃v,e=BA v/\BK w' w.heap.size v [⟨n,1,1⟩])/\Up w w':=by
 have hm:∀W,(method 429 242 (.agg #[]) "kevel/lock.strips").run Tryz.prog W= .ok (337,.agg #[]) W:=λ_=>Ay
 have HB:=I (NP.new (AV w) 2 n mode base loc room);have HO:=I (λW=>Ln W);have HX:=I (λW=>AAD 2 n mode base loc room W hn);obtain⟨c0,c1,c2,c3,c4,c5⟩:=HB.cells;clear hn;go_enter Tryz.func104,Tryz.ntmps104;go_wp2_with fail;refine(HO _).mono ?_;rintro e w1 ⟨rfl,hu1⟩;have HB1:=I (HB.go hu1);clear hu1 c0 c1 c2 c3 c4 c5;obtain⟨c0,c1,c2,c3,c4,c5⟩:=HB1.cells;go_wp2_with fail;refine(HX _).mono ?_;rintro e w2 ⟨⟨v,rfl,hv⟩,hu2⟩;have HV:=I (Da hv HB1.up.size);have HB2:=I (HB1.go hu2).up;clear hu2 c0 c1 c2 c3 c4 c5 hv
 go_wp2
 go_ret;exact⟨⟨_,rfl,HV⟩,HB2⟩
theorem Zj(n mode base loc room:tyI)(w:tyW)(hn:1<=n/\n<=8):Calls Tryz.prog 123 #[.agg #[O 2,n,mode,base,loc,room]] w λe w'=>e=BA n/\Up w w':=by
 have hm:∀W,(method 429 242 (.agg #[]) "kevel/lock.size").run Tryz.prog W= .ok (336,.agg #[]) W:=λ_=>Ay
 have HB:=I (NP.new (AV w) 2 n mode base loc room);have HO:=I (λW=>Ln W);have HX:=I (λW=>aT 2 n mode base loc room W hn);obtain⟨c0,c1,c2,c3,c4,c5⟩:=HB.cells;clear hn;go_enter Tryz.func123,Tryz.ntmps123;go_wp2_with fail;refine(HO _).mono ?_;rintro e w1 ⟨rfl,hu1⟩;have HB1:=I (HB.go hu1);clear hu1 c0 c1 c2 c3 c4 c5;obtain⟨c0,c1,c2,c3,c4,c5⟩:=HB1.cells;go_wp2_with fail;refine(HX _).mono ?_;rintro e w2 ⟨rfl,hu2⟩;have HB2:=I (HB1.go hu2).up;clear hu2 c0 c1 c2 c3 c4 c5
 go_wp2
 go_ret;exact⟨rfl,HB2⟩
theorem Xn(n mode base loc room:tyI)(w:tyW)(hn:1<=n/\n<=8):Calls Tryz.prog 107 #[.agg #[O 2,n,mode,base,loc,room]] w λe w'=>e=BA ()/\Up w w':=by
 have hm:∀W,(method 429 242 (.agg #[]) "kevel/lock.size").run Tryz.prog W= .ok (336,.agg #[]) W:=λ_=>Ay
 have HB:=I (NP.new (AV w) 2 n mode base loc room);have HO:=I (λW=>Ln W);have HX:=I (λW=>aT 2 n mode base loc room W hn);obtain⟨c0,c1,c2,c3,c4,c5⟩:=HB.cells;clear hn;go_enter Tryz.func107,Tryz.ntmps107;go_wp2_with fail;refine(HO _).mono ?_;rintro e w1 ⟨rfl,hu1⟩;have HB1:=I (HB.go hu1);clear hu1 c0 c1 c2 c3 c4 c5;obtain⟨c0,c1,c2,c3,c4,c5⟩:=HB1.cells;go_wp2_with fail;refine(HX _).mono ?_;rintro e w2 ⟨rfl,hu2⟩;have HB2:=I (HB1.go hu2).up;clear hu2 c0 c1 c2 c3 c4 c5
 go_wp2
 go_ret;exact⟨rfl,HB2⟩
theorem fC(n mode base loc room:tyI)(w:tyW)(hn:1<=n/\n<=8)(hr:1<=room/\room<=1048576)(hm1:mode=1)(hb:0<=base/\base+n<=32768)(hl:0<=loc/\loc+0<=32768):Calls Tryz.prog 122 #[.agg #[O 2,n,mode,base,loc,room]] w λe w'=>e=BA true/\Up w w':=by
 subst hm1;have hm:∀W,(method 429 242 (.agg #[]) "kevel/lock.size").run Tryz.prog W= .ok (336,.agg #[]) W:=λ_=>Ay
 have f1:¬(n<1):=J;have f2:¬(8<n):=J;have f3:¬(room<1):=J;have f4:¬(1048576<room):=J;have f5:¬(base<0):=J;have f6:¬(32768<base):=J;have f7:¬(loc<0):=J;have f8:¬(32768<loc):=J;have f9:base+n<=32768:=hb.2;have f10:loc+0<=32768:=hl.2;have w1:wrap64 (base+n)=base+n:=IntWalk.wrap64_in _ J;have w2:wrap64 (loc+0)=loc+0:=IntWalk.wrap64_in _ J;have HB:=I (NP.new (AV w) 2 n 1 base loc room);have HO:=I (λW=>Ln W);have HX:=I (λW=>aT 2 n 1 base loc room W hn);obtain⟨c0,c1,c2,c3,c4,c5⟩:=HB.cells;clear hn hr hb hl;go_enter Tryz.func122,Tryz.ntmps122;go_wp2_with fail;refine(HO _).mono ?_;rintro e w1 ⟨rfl,hu1⟩;have HB1:=I (HB.go hu1);clear hu1 c0 c1 c2 c3 c4 c5;obtain⟨c0,c1,c2,c3,c4,c5⟩:=HB1.cells;go_wp2_with fail;refine(HX _).mono ?_;rintro e w2 ⟨rfl,hu2⟩;have HB2:=I (HB1.go hu2);clear hu2 c0 c1 c2 c3 c4 c5;obtain⟨c0,c1,c2,c3,c4,c5⟩:=HB2.cells
 go_wp2
 go_ret;exact⟨rfl,HB2.up⟩
theorem Of(w:tyW):Calls Tryz.prog 103 #[O 1] w λe w'=>e=BA (.tuple #[sN,O 1])/\w'=w:=by
 go_enter Tryz.func103,Tryz.ntmps103
 go_wp2
 go_ret2;exact⟨rfl,rfl⟩
theorem VM(w:tyW):Calls Tryz.prog 76 #[sN] w λe w'=>e=BA ()/\w'=w:=by
 go_enter Tryz.func76,Tryz.ntmps76;go_wp2_with fail
 go_loopw[3,8] (λs x wr=>x=()/\s=()/\wr=w) (λ_ _ _=>0)
 case atStart=>exact⟨rfl,rfl,rfl⟩
 case round=>
  obtain⟨rfl,rfl,rfl⟩:=hrel
  go_wp2
  go_ret;exact⟨rfl,rfl⟩
def qR (w:tyW)(b:tyN):Nat->List Value->World
 |_,[]=>w
 |i,v::vs=>qR (w.setCell (aD b i) v) b (i+1) vs
theorem Q3{b N:tyN}(hb:N<=b):∀(vs:List Value) (i:tyN) (w0 w:tyW),Below N w0 w->Below N w0 (qR w b i vs)
 |[],i,w0,w,h=>h
 |v::vs,i,w0,w,h=>Q3 hb vs (i+1) w0 _ (h.setCell (p:=aD b i) hb v)
theorem KC{b k:tyN}(hk:k≠b):∀(vs:List Value) (i:tyN) (w:tyW),hSM (qR w b i vs) w k
 |[],i,w=>rfl
 |v::vs,i,w=>(KC hk vs (i+1) _).trans (BF w ⟨b,i,none⟩ v k hk)
theorem Hz{P:Program}{ops:Array Oper}{o:Oper}{a:Act}{K:Act->World->Prop}{Q:Exit->Act->World->Prop}{E:Prop}(hgd:o.guard=none)(ty:TypeId)(x y:Operand)(ho:o.op= .store ty x y)
  (g:tyN) (cells:Array Value) (hx:a.eval x=pT g) (hy:a.eval y= .agg cells) (t:TypeId) (old:Array Value) (hg:BR w g old t) (hi:(P.info? ty).map (·.size)=some cells.size)
  (hold:old.size=cells.size) (h1:cells.all (·.oneCell')=true) (h:K (a.put o.dst undef) (w.setRow g cells)):if Region.wanted o (yielded ops a.tmps)=true then Oper.wp P o a w K Q else E:=by
 have hw:Region.wanted o (yielded ops a.tmps)=true:=by simp[Region.wanted,hgd]
 rw[AK hw];exact wp_store_row ty x y ho g cells hx hy t old hg hi hold h1 h
theorem Ub{N g:tyN}{w0 w:tyW}(hb:Below N w0 w)(hg:N<=g)(cs:Array Value):Below N w0 (w.setRow g cs):=
 hb.trans ⟨rfl,rfl,rfl,Az,λk hk=>RU w g k cs J⟩
theorem AL{cs:Array Value}{t:TypeId}(h:BR w b cs t)(i:tyN):w.cell? (aD b i)=cs[i]?:=Ar _ _ i _ _ _ h
theorem FD{cs:Array Value}{t:TypeId}(h:BR w b cs t)(i:tyN):w.frozen? (aD b i)=false:=D4 _ _ i _ _ h
structure OT (w0 wr:tyW)(AW n base loc room z4 z5 z6 z7:tyI)(tb rb lb:tyN):Prop where
 up:Up w0 wr
 tk:BR wr tb #[O 1,AW,O 1,room,z4,z5,z6,z7] 46
 rk:BR wr rb GL 132
 lk:BR wr lb #[AW,n,O 1,base,loc,room] 128
 ge:w0.heap.size<=rb
section
variable {w0 wr w':tyW}{AW n base loc room z4 z5 z6 z7:tyI}{tb rb lb:tyN}
theorem OT.go(h:OT w0 wr AW n base loc room z4 z5 z6 z7 tb rb lb)(u:Up wr w'):OT w0 w' AW n base loc room z4 z5 z6 z7 tb rb lb:=
 ⟨h.up.trans u,(u.block _ (gE h.tk).1).trans h.tk,(u.block _ (gE h.rk).1).trans h.rk,(u.block _ (gE h.lk).1).trans h.lk,h.ge⟩
theorem OT.put{zc:tyN}(h:OT w0 wr AW n base loc room z4 z5 z6 z7 tb rb lb)(h0:w0.heap.size<=zc)(h1:zc≠tb)(h2:zc≠rb)(h3:zc≠lb)(vs:List Value):OT w0 (qR wr zc 0 vs) AW n base loc room z4 z5 z6 z7 tb rb lb:=
 ⟨Q3 h0 vs 0 _ _ h.up,(KC h1.symm vs 0 wr).trans h.tk,(KC h2.symm vs 0 wr).trans h.rk,(KC h3.symm vs 0 wr).trans h.lk,h.ge⟩
theorem OT.row{zc:tyN}(h:OT w0 wr AW n base loc room z4 z5 z6 z7 tb rb lb)(h0:w0.heap.size<=zc)(h1:zc≠tb)(h2:zc≠rb)(h3:zc≠lb)(vs:Array Value):OT w0 (wr.setRow zc vs) AW n base loc room z4 z5 z6 z7 tb rb lb:=
 ⟨Ub h.up h0 vs,(RU wr zc tb vs h1.symm).trans h.tk,(RU wr zc rb vs h2.symm).trans h.rk,(RU wr zc lb vs h3.symm).trans h.lk,h.ge⟩
theorem OT.cells(h:OT w0 wr AW n base loc room z4 z5 z6 z7 tb rb lb):(V wr tb 0 (O 1)/\V wr tb 1 AW/\V wr tb 2 (O 1)/\V wr tb 3 room/\V wr tb 4 z4/\V wr tb 5 z5/\V wr tb 6 z6/\V wr tb 7 z7)/\(V wr lb 0 AW/\V wr lb 1 n/\V wr lb 2 (O 1)/\V wr lb 3 base/\V wr lb 4 loc/\V wr lb 5 room):=
 ⟨⟨AL h.tk 0,AL h.tk 1,AL h.tk 2,AL h.tk 3,AL h.tk 4,AL h.tk 5,AL h.tk 6,AL h.tk 7⟩,⟨AL h.lk 0,AL h.lk 1,AL h.lk 2,AL h.lk 3,AL h.lk 4,AL h.lk 5⟩⟩
end
theorem WW(AW n base loc room z4 z5 z6 z7 cl lo:tyI)(w:tyW)
  (hF:∀W,Calls Tryz.prog 122 #[.agg #[AW,n,O 1,base,loc,room]] W λe w'=>e=BA true/\Up W w')
  (hC:∀W,Calls Tryz.prog 123 #[.agg #[AW,n,O 1,base,loc,room]] W λe w'=>e=BA cl/\Up W w')
  (hL:∀W,Calls Tryz.prog 107 #[.agg #[AW,n,O 1,base,loc,room]] W λe w'=>e=BA lo/\Up W w')
  (h1:0<=base+cl/\base+cl<=32768) (h2:0<=loc+lo/\loc+lo+1<=32768):
  Calls Tryz.prog 96 #[.agg #[O 1,AW,O 1,room,z4,z5,z6,z7],n,base,loc] w λe w'=>e=BA (.tuple #[.agg (DQ AW room z4 z5 z6 z7 n base loc (O (base+cl)) (O (loc+lo))),true])/\Up w w':=by
 have HF:=I hF;have HC:=I hC;have HL:=I hL;have HP:=I (λW=>Of W);have HCN:=I (λW=>show Calls Tryz.prog 76 #[sN] W (λe w'=>e=BA ()/\w'=W)from VM W);have w1:wrap64 (base+cl)=base+cl:=IntWalk.wrap64_in _ J;have w2:wrap64 (loc+lo)=loc+lo:=IntWalk.wrap64_in _ J;have v1:IntKind.i64.wrap (base+cl)=base+cl:=IntWalk.i64_in _ J;have v2:IntKind.i64.wrap (loc+lo)=loc+lo:=IntWalk.i64_in _ J;have v3:IntKind.i64.wrap (loc+lo+1)=loc+lo+1:=IntWalk.i64_in _ J;have v4:IntKind.i64.wrap (base+cl+0)=base+cl:=by rw[XD];exact v1
 have w3:wrap64 (loc+lo+1)=loc+lo+1:=IntWalk.wrap64_in _ J;have f1:¬(32768<base+cl):=J;have f2:¬(32768<loc+lo+1):=J
 have HB:=I (show OT w (((w.alloc (Y #[O 1,AW,O 1,room,z4,z5,z6,z7] 46)).alloc (Y GL 132)).alloc (Y #[AW,n,O 1,base,loc,room] 128)) AW n base loc room z4 z5 z6 z7 w.heap.size (w.heap.size+1) (w.heap.size+1+1)from by
  have a:=Ah w (Y #[O 1,AW,O 1,room,z4,z5,z6,z7] 46);have b:=Ah (w.alloc (Y #[O 1,AW,O 1,room,z4,z5,z6,z7] 46)) (Y GL 132);have c:=Ah ((w.alloc (Y #[O 1,AW,O 1,room,z4,z5,z6,z7] 46)).alloc (Y GL 132)) (Y #[AW,n,O 1,base,loc,room] 128);rw[Cy]at b;rw[Cy,Cy]at c
  refine⟨(((AV w).alloc _).alloc _).alloc _,(((AV _).alloc _).alloc _).block _ Az|>.trans a,((AV _).alloc _).block _ Az|>.trans b,c,J⟩)
 go_enter Tryz.func96,Tryz.ntmps96;have b0:=HB.out;obtain⟨W0,hW0⟩:=gX (((w.alloc (Y #[O 1,AW,O 1,room,z4,z5,z6,z7] 46)).alloc (Y GL 132)).alloc (Y #[AW,n,O 1,base,loc,room] 128));obtain⟨tb,htb⟩:=gX w.heap.size;rw[hW0]at HB b0;have hsz:(w.alloc (Y #[O 1,AW,O 1,room,z4,z5,z6,z7] 46)).heap.size=w.heap.size+1:=Cy _ _;have t0:∀i,(w.alloc (Y #[O 1,AW,O 1,room,z4,z5,z6,z7] 46)).cell? (aD w i)=(#[O 1,AW,O 1,room,z4,z5,z6,z7]:Array Value)[i]?:=AL (Ah w _);have s0:∀i,((w.alloc (Y #[O 1,AW,O 1,room,z4,z5,z6,z7] 46)).alloc (Y GL 132)).cell? (aD w i)=(#[O 1,AW,O 1,room,z4,z5,z6,z7]:Array Value)[i]?:=λi=>(((AV _).alloc _).cell (p:=aD w i) Az).trans (t0 i)
 have s1:=s0 1;have s2:=s0 2;have s3:=s0 3;simp only[Iv,Is,I6]at s1 s2 s3;clear s0 t0;rw[htb]at HB b0 s1 s2 s3;obtain⟨⟨c0,c1,c2,c3,c4,c5,c6,c7⟩,d0,d1,d2,d3,d4,d5⟩:=b0.cells;clear b0 hsz;go_wp2_with fail;refine(HF _).mono ?_;rintro e w1 ⟨rfl,hu1⟩;have HB1:=I (HB.go hu1);clear hu1 c0 c1 c2 c3 c4 c5 c6 c7 d0 d1 d2 d3 d4 d5 HB s1 s2 s3 hW0 htb HF hF hC hL;obtain⟨⟨c0,c1,c2,c3,c4,c5,c6,c7⟩,d0,d1,d2,d3,d4,d5⟩:=HB1.cells;have HI0:∀P:Prop,P->P:=λ_ h=>h
 go_upto_region 4 with fail;clear c0 c1 c2 c3 c4 c5 c6 c7 d0 d1 d2 d3 d4 d5
 go_cut[11] (λv11 wx=> ∃zc:Nat,v11=pT zc/\Hid (OT w wx AW n base loc room z4 z5 z6 z7 tb (tb+1) (tb+1+1)/\BR wx zc (DQ AW room z4 z5 z6 z7 n base loc (O (base+cl)) (O (loc+lo))) 132))
 case first=>
  have HB2:=I (HB1.go (AV w1).drew);refine Br (S:=λW=>(V W tb 0 (O 1)/\V W tb 1 AW/\V W tb 2 (O 1)/\V W tb 3 room/\V W tb 4 z4/\V W tb 5 z5/\V W tb 6 z6/\V W tb 7 z7)/\(V W (tb+1+1) 0 AW/\V W (tb+1+1) 1 n/\V W (tb+1+1) 2 (O 1)/\V W (tb+1+1) 3 base/\V W (tb+1+1) 4 loc/\V W (tb+1+1) 5 room)) Ay HB2.cells (λhS0=>?_);refine tq 0 hS0 ?_;refine tq 1 hS0 ?_;refine tq 2 hS0 ?_;refine tq 3 hS0 ?_;refine tq 6 hS0 ?_;refine tq 7 hS0 ?_;refine Dn (rs:=[4,11]) SU Az ?_;refine BU rfl (λK hK=>?_) (BU rfl (λK hK=>?_) Dp)
  .go_simp;refine(HC _).mono ?_;rintro e w2 ⟨rfl,hu⟩;have HB3:=I (HB2.go hu);clear hu;refine bk hK HB3.cells λhS1=>?_
   refine tq 5 hS1 ?_
   try simp only[v1]
   refine Dn (rs:=[8,11]) Ay Az ?_;refine BU rfl (λK hK=>?_) (BU rfl (λK hK=>?_) Dp)
   .go_simp;refine(HL _).mono ?_;rintro e w3 ⟨rfl,hu⟩;have IM:=I (HB3.go hu);clear hu;refine bk hK IM.cells λhS2=>?_
    refine tq 9 hS2 ?_
    try simp only[v2]
    refine tq 10 hS2 ?_;refine tr 11 λK hK=>?_
    go_simp;obtain⟨w4,hw4⟩:=gX (w3.alloc (Y GL 132));have FA:=I (IM.go ((AV w3).alloc (Y GL 132)));have OE:BR (w3.alloc (Y GL 132)) w3 GL 132:=Ah w3 (Y GL 132);obtain⟨zc,hzc⟩:=gX w3.heap.size
    have PP:=I (show w.heap.size<=zc/\zc≠tb/\zc≠tb+1/\zc≠tb+1+1 from by
     have h1:=IM.up.size;have h2:=(gE IM.tk).1;have h3:=(gE IM.rk).1;have h4:=(gE IM.lk).1
     omega)
    rw[hw4]at FA OE|-;rw[hzc]at OE|-;clear hw4 hzc;have Yw:=I OE;clear OE;refine bk hK FA.cells λGJ=>?_
    refine tr 12 λK hK=>?_
    refine Hz rfl 132 (.tmp 11) (.tmp 53) rfl zc (DQ AW room z4 z5 z6 z7 n base loc (O (base+cl)) (O (loc+lo))) rfl rfl 132 GL Yw Ay rfl (by simp[Value.oneCell']) ?_;have Je:=I (FA.row PP.1 PP.2.1 PP.2.2.1 PP.2.2.2 (DQ AW room z4 z5 z6 z7 n base loc (O (base+cl)) (O (loc+lo))));refine bk hK Je.cells λGy=>?_
    refine CN Ay ?_ _
    try simp only[Act.put,DH,DI,DG,Ei,Ef,Ee]
    go_wp2
    go_meet;exact⟨_,rfl,I ⟨Je,Se w4 zc _ _ _ _ Yw⟩⟩
   .go_simp;obtain⟨w3,hw4⟩:=gX (w2.alloc (Y GL 132));have IM:=I (HB3.go ((AV w2).alloc (Y GL 132)));have OE:BR (w2.alloc (Y GL 132)) w2 GL 132:=Ah w2 (Y GL 132);obtain⟨zc,hzc⟩:=gX w2.heap.size
    have PP:=I (show w.heap.size<=zc/\zc≠tb/\zc≠tb+1/\zc≠tb+1+1 from by
     have h1:=HB3.up.size;have h2:=(gE HB3.tk).1;have h3:=(gE HB3.rk).1;have h4:=(gE HB3.lk).1
     omega)
    rw[hw4]at IM OE|-;rw[hzc]at OE|-;clear hw4 hzc;have Yw:=I OE;clear OE;refine bk hK IM.cells λhS2=>?_
    refine tr 8 λK hK=>?_
    go_simp;refine(HL _).mono ?_;rintro e w4 ⟨rfl,hu⟩;have FA:=I (IM.go hu);have Yw:=I ((hu.block _ (gE Yw).1).trans Yw);clear hu;refine bk hK FA.cells λGJ=>?_
    refine tq 9 GJ ?_
    try simp only[v2]
    refine tq 10 GJ ?_;refine tr 12 λK hK=>?_
    refine Hz rfl 132 (.tmp 11) (.tmp 53) rfl zc (DQ AW room z4 z5 z6 z7 n base loc (O (base+cl)) (O (loc+lo))) rfl rfl 132 GL Yw Ay rfl (by simp[Value.oneCell']) ?_;have Je:=I (FA.row PP.1 PP.2.1 PP.2.2.1 PP.2.2.2 (DQ AW room z4 z5 z6 z7 n base loc (O (base+cl)) (O (loc+lo))));refine bk hK Je.cells λGy=>?_
    refine CN Ay ?_ _
    try simp only[Act.put,DH,DI,DG,Ei,Ef,Ee]
    go_wp2
    go_meet;exact⟨_,rfl,I ⟨Je,Se w4 zc _ _ _ _ Yw⟩⟩
  .go_simp;obtain⟨w2,hw4⟩:=gX ((w1.alloc (Y GL 132)).drew);have HB3:=I (HB1.go ((AV w1).alloc (Y GL 132)).drew);have OE:BR ((w1.alloc (Y GL 132)).drew) w1 GL 132:=Ah w1 (Y GL 132);obtain⟨zc,hzc⟩:=gX w1.heap.size
   have PP:=I (show w.heap.size<=zc/\zc≠tb/\zc≠tb+1/\zc≠tb+1+1 from by
    have h1:=HB1.up.size;have h2:=(gE HB1.tk).1;have h3:=(gE HB1.rk).1;have h4:=(gE HB1.lk).1
    omega)
   rw[hw4]at HB3 OE|-;rw[hzc]at OE|-;clear hw4 hzc;have Yw:=I OE;clear OE;refine bk hK HB3.cells λhS1=>?_
   refine tr 4 λK hK=>?_
   go_simp;refine(HC _).mono ?_;rintro e w3 ⟨rfl,hu⟩;have IM:=I (HB3.go hu);have Yw:=I ((hu.block _ (gE Yw).1).trans Yw);clear hu;refine bk hK IM.cells λhS2=>?_
   refine tq 5 hS2 ?_
   try simp only[v1]
   refine tr 8 λK hK=>?_
   go_simp;refine(HL _).mono ?_;rintro e w4 ⟨rfl,hu⟩;have FA:=I (IM.go hu);have Yw:=I ((hu.block _ (gE Yw).1).trans Yw);clear hu;refine bk hK FA.cells λGJ=>?_
   refine tq 9 GJ ?_
   try simp only[v2]
   refine tq 10 GJ ?_;refine tr 12 λK hK=>?_
   refine Hz rfl 132 (.tmp 11) (.tmp 53) rfl zc (DQ AW room z4 z5 z6 z7 n base loc (O (base+cl)) (O (loc+lo))) rfl rfl 132 GL Yw Ay rfl (by simp[Value.oneCell']) ?_;have Je:=I (FA.row PP.1 PP.2.1 PP.2.2.1 PP.2.2.2 (DQ AW room z4 z5 z6 z7 n base loc (O (base+cl)) (O (loc+lo))));refine bk hK Je.cells λGy=>?_
   refine CN Ay ?_ _
   try simp only[Act.put,DH,DI,DG,Ei,Ef,Ee]
   go_wp2
   go_meet;exact⟨_,rfl,I ⟨Je,Se w4 zc _ _ _ _ Yw⟩⟩
 case rest=>
  obtain⟨zc,rfl,HQ⟩:=hcut;obtain⟨⟨c0,c1,c2,c3,c4,c5,c6,c7⟩,d0,d1,d2,d3,d4,d5⟩:=HQ.1.cells;have o21:V wc zc 21 (O (base+cl)):=AL HQ.2 21;have o22:V wc zc 22 (O (loc+lo)):=AL HQ.2 22;clear HB1 HC HL;go_wp2_with fail;refine(HP _).mono ?_;rintro e w5 ⟨rfl,rfl⟩;go_upto_region 6 with fail;go_quiet((go_at_call 76;exact Calls.quiet_of_same (HCN _)))
  rename_i nq;have huz:Up w5 (w5.drewN nq):=(AV w5).drewN nq;generalize w5.drewN nq=wz at*;clear o21 o22 c0 c1 c2 c3 c4 c5 c6 c7 d0 d1 d2 d3 d4 d5;have uD:=I (HQ.1.go huz);have HZC:=I ((huz.block _ (gE HQ.2).1).trans HQ.2);clear huz;have M3:=I (Se wz (tb+1) _ (DQ AW room z4 z5 z6 z7 n base loc (O (base+cl)) (O (loc+lo))) _ _ uD.rk);have sC:=I (Ub uD.up uD.ge (DQ AW room z4 z5 z6 z7 n base loc (O (base+cl)) (O (loc+lo))))
  go_wp2_with(first
   |(refine Hl rfl 132 (.tmp 11) rfl zc rfl 132 (DQ AW room z4 z5 z6 z7 n base loc (O (base+cl)) (O (loc+lo))) (0,0) _ HZC Tryz.underlying132 rfl Ay ?_)
   |(refine RH rfl 132 (.tmp 8) (.tmp 74) rfl (tb+1) (DQ AW room z4 z5 z6 z7 n base loc (O (base+cl)) (O (loc+lo))) rfl rfl 132 GL uD.rk Ay rfl (by simp[Value.oneCell']) ?_))
  refine Gz (v:= .tuple #[.agg (DQ AW room z4 z5 z6 z7 n base loc (O (base+cl)) (O (loc+lo))),true]) ?_ rfl ⟨rfl,sC⟩;exact(GO (p:=8) (u:=9) (ty:=132) rfl _ _ (tb+1) 132 _ _ _ rfl M3 Tryz.underlying132 rfl Ay).trans rfl
theorem EG:(Tryz.prog.info? 152).map (λi=>(i.zero,i.size,i.bytes))=some (some (.agg #[(),(),()]),3,24):=Ay
theorem qt(AW n base loc room z4 z5 z6 z7 bs lc:tyI)(w:tyW)
  (hL:∀W,Calls Tryz.prog 96 #[.agg #[O 1,AW,O 1,room,z4,z5,z6,z7],n,base,loc] W λe w'=>e=BA (.tuple #[.agg (DQ AW room z4 z5 z6 z7 n base loc bs lc),true])/\Up W w'):
  Calls Tryz.prog 75 #[.agg #[O 1,AW,O 1,room,z4,z5,z6,z7],n,base,loc] w λe w'=>e=BA (.tuple #[.agg (DQ AW room z4 z5 z6 z7 n base loc bs lc),true])/\Up w w':=by
 have HL:=I hL;clear hL;have ha:=Ah w (Y #[O 1,AW,O 1,room,z4,z5,z6,z7] 46);have hb:=Ah (w.alloc (Y #[O 1,AW,O 1,room,z4,z5,z6,z7] 46)) (Y GL 132);rw[Cy]at hb;have ha:=(((AV (w.alloc (Y #[O 1,AW,O 1,room,z4,z5,z6,z7] 46))).alloc (Y GL 132)).block w.heap.size Az).trans ha;have KI:=I (show Up w ((w.alloc (Y #[O 1,AW,O 1,room,z4,z5,z6,z7] 46)).alloc (Y GL 132))from((AV w).alloc _).alloc _);obtain⟨W0,hW0⟩:=gX ((w.alloc (Y #[O 1,AW,O 1,room,z4,z5,z6,z7] 46)).alloc (Y GL 132));rw[hW0]at ha hb KI;have HB:=I hb;have c0:=cI ha 0;have c1:=cI ha 1;have c2:=cI ha 2;have c3:=cI ha 3;have c4:=cI ha 4;have c5:=cI ha 5;have c6:=cI ha 6;have c7:=cI ha 7;clear ha hb;go_enter Tryz.func75,Tryz.ntmps75;go_wp2_with fail;refine(HL _).mono ?_;rintro e w1 ⟨rfl,hu1⟩;have HB1:=I ((hu1.block _ (gE HB).1).trans HB);have GR:=I (KI.trans hu1);clear hu1 c0 c1 c2 c3 c4 c5 c6 c7 HB KI hW0;have M3:=I (Se w1 (w.heap.size+1) _ (DQ AW room z4 z5 z6 z7 n base loc bs lc) _ _ HB1);have sC:=I (Ub GR (N9 w.heap.size) (DQ AW room z4 z5 z6 z7 n base loc bs lc));go_wp2_with(refine RH rfl 132 (.tmp 8) (.tmp 29) rfl (w.heap.size+1) (DQ AW room z4 z5 z6 z7 n base loc bs lc) rfl rfl 132 GL HB1 Ay rfl (by simp[Value.oneCell']) ?_)
 refine Gz (v:= .tuple #[.agg (DQ AW room z4 z5 z6 z7 n base loc bs lc),true]) ?_ rfl ⟨rfl,sC⟩;exact(GO (p:=8) (u:=9) (ty:=132) rfl _ _ (w.heap.size+1) 132 _ _ _ rfl M3 Tryz.underlying132 rfl Ay).trans rfl
theorem Rc(AW n base loc room z4 z5 z6 z7 bs lc:tyI)(l:List SD)(w:tyW)
  (hL:∀W,Calls Tryz.prog 104 #[.agg #[AW,n,O 1,base,loc,room]] W λe w'=>(∃v,e=BA v/\BK w' W.heap.size v l)/\Up W w'):
  Calls Tryz.prog 77 #[.agg (DQ AW room z4 z5 z6 z7 n base loc bs lc)] w λe w'=>(∃v,e=BA v/\BK w' w.heap.size v l)/\Up w w':=by
 have HL:=I hL;have HP:=I (λW=>Of W);clear hL;have ha:=Ah w (Y (DQ AW room z4 z5 z6 z7 n base loc bs lc) 132);have KI:=I (show Up w (w.alloc (Y (DQ AW room z4 z5 z6 z7 n base loc bs lc) 132))from(AV w).alloc _);obtain⟨W0,hW0⟩:=gX (w.alloc (Y (DQ AW room z4 z5 z6 z7 n base loc bs lc) 132));rw[hW0]at ha KI;have c0:=cI ha 0;have d0:=cI ha 8;have d1:=cI ha 9;have d2:=cI ha 10;have d3:=cI ha 11;have d4:=cI ha 12;have d5:=cI ha 13;clear ha;go_enter Tryz.func77,Tryz.ntmps77;go_wp2_with fail;refine(HP _).mono ?_;rintro e w1 ⟨rfl,rfl⟩;go_wp2_with fail;refine(HL _).mono ?_;rintro e w2 ⟨⟨v,rfl,hv⟩,hu2⟩;have HV:=I (Da hv KI.size);have Cm:=I (KI.trans hu2);clear hu2 c0 d0 d1 d2 d3 d4 d5 hv KI;obtain⟨i0,hi',hz0,hz1,hz2⟩:=info_parts EG;have V8:=I hi';have HZ1:=I hz1;clear hi' hz0 hz1 hz2;go_wp2_with(at_builtin;refine wpList_append_own_none rfl (.tmp 39) (.tmp 40) 103 rfl w.heap.size 152 i0 3 Tryz.underlying103 V8 _ _ _ rfl HV rfl ?_)
 go_ret;exact⟨⟨_,rfl,HV⟩,Cm⟩
theorem lE(AW n base loc room z4 z5 z6 z7 bs lc lo:tyI)(w:tyW)(h0:0<=lo/\lo<=32768)
  (hL:∀W,Calls Tryz.prog 107 #[.agg #[AW,n,O 1,base,loc,room]] W λe w'=>e=BA lo/\Up W w'):
  Calls Tryz.prog 78 #[.agg (DQ AW room z4 z5 z6 z7 n base loc bs lc)] w λe w'=>e=BA (O (lo+1))/\Up w w':=by
 have HL:=I hL;have HP:=I (λW=>Of W);have w1:wrap64 (lo+1)=lo+1:=IntWalk.wrap64_in _ J;clear hL;have ha:=Ah w (Y (DQ AW room z4 z5 z6 z7 n base loc bs lc) 132);have KI:=I (show Up w (w.alloc (Y (DQ AW room z4 z5 z6 z7 n base loc bs lc) 132))from(AV w).alloc _);obtain⟨W0,hW0⟩:=gX (w.alloc (Y (DQ AW room z4 z5 z6 z7 n base loc bs lc) 132));rw[hW0]at ha KI;have c0:=cI ha 0;have d0:=cI ha 8;have d1:=cI ha 9;have d2:=cI ha 10;have d3:=cI ha 11;have d4:=cI ha 12;have d5:=cI ha 13;clear ha;go_enter Tryz.func78,Tryz.ntmps78;go_wp2_with fail;refine(HP _).mono ?_;rintro e w1 ⟨rfl,rfl⟩;go_wp2_with fail;refine(HL _).mono ?_;rintro e w2 ⟨rfl,hu2⟩;have Cm:=I (KI.trans hu2);clear hu2 c0 d0 d1 d2 d3 d4 d5 KI
 go_wp2
 go_ret;exact⟨rfl,Cm⟩
theorem I5:(Tryz.prog.info? 132).map (λi=>(i.zero,i.size,i.bytes))=some (some (.agg GL),23,184):=Ay
structure Tv (w wr:tyW)(ov:tyV)(ob:List Value):Prop where
 up:Up w wr
 row:wr.ownsRow w.heap.size 132 23 ov 1 ob
theorem Zp(AW n base loc room z4 z5 z6 z7 bs lc sz:tyI)(l:List SD)(b off tc:tyN)(w:tyW)(hn:1<=n/\n<=8)
  (c0:V w b off (O 1)) (c1:V w b (off+1) AW) (c2:V w b (off+2) (O 1)) (c3:V w b (off+3) room) (c4:V w b (off+4) z4) (c5:V w b (off+5) z5) (c6:V w b (off+6) z6) (c7:V w b (off+7) z7)
  (hL:∀W,Calls Tryz.prog 75 #[.agg #[O 1,AW,O 1,room,z4,z5,z6,z7],n,(),()] W λe w'=>e=BA (.tuple #[.agg (DQ AW room z4 z5 z6 z7 n base loc bs lc),true])/\Up W w')
  (hS:∀W,Calls Tryz.prog 77 #[.agg (DQ AW room z4 z5 z6 z7 n base loc bs lc)] W λe w'=>(∃v,e=BA v/\BK w' W.heap.size v l)/\Up W w')
  (hZ:∀W,Calls Tryz.prog 78 #[.agg (DQ AW room z4 z5 z6 z7 n base loc bs lc)] W λe w'=>e=BA sz/\Up W w')
  (hl:l.length<=1000) (hm:∀i,i<l.length->0<=(l.getD i Fo).many/\(l.getD i Fo).many<=1000) (hsz:0<=sz/\sz<=32768):
  Calls Tryz.prog 49 #[BG b off 1 tc,n] w λe w'=> ∃ov,e=BA (.tuple #[ov,()])/\Tv w w' ov (gh AW room z4 z5 z6 z7 n base loc bs lc):=by
 have HL:=I hL;have HS:=I hS;have HZ:=I hZ;have HC:=I (λ(W:tyW) (A:tyA) (c:tyN) (h:Dx W A l)=>NV l A c W hl h hm);have hmm:=Lc hm l.length (A9 _);rw[IR]at hmm;obtain⟨ml,G8⟩:=gX (C8 l);rw[G8]at HC hmm;have w1:wrap64 (0+ml)=ml:=by rw[Rz];exact IntWalk.wrap64_in _ J
 have w2:wrap64 (0+sz)=sz:=by rw[Rz];exact IntWalk.wrap64_in _ J
 have f1:¬(n<1):=J;have f2:¬(8<n):=J;have hb:=Ah w (Y #[O 1,AW,O 1,room,z4,z5,z6,z7] 46);have hu:=(AV w).alloc (Y #[O 1,AW,O 1,room,z4,z5,z6,z7] 46);obtain⟨W0,hW0⟩:=gX (w.alloc (Y #[O 1,AW,O 1,room,z4,z5,z6,z7] 46));rw[hW0]at hb hu;have k0:=cI hb 0;have k1:=cI hb 1;have k2:=cI hb 2;have k3:=cI hb 3;have k4:=cI hb 4;have k5:=cI hb 5;have k6:=cI hb 6;have k7:=cI hb 7;have HU:=I hu;clear hL hS hZ hb hu hl hm G8 hmm hsz hn;go_enter Tryz.func49,Tryz.ntmps49;go_wp2_with fail
 go_loopw[6,7,8,24] (λov cv lv iv wr=>(iv=()/\ov=sN/\cv=()/\lv=()/\wr=w)\/(iv=O 1/\Hid (Tv w wr ov (gh AW room z4 z5 z6 z7 n base loc bs lc)))) (λ_ _ _ iv _=>(1-intOf iv).toNat)
 case atStart=>exact .inl ⟨rfl,rfl,rfl,rfl,rfl⟩
 case round=>
  rcases hrel with⟨rfl,rfl,rfl,rfl,rfl⟩|⟨rfl,HN⟩
  .go_wp2_with fail;refine(HL _).mono ?_;rintro e w1 ⟨rfl,hu1⟩;have GR:=I (HU.trans hu1);clear hu1 c0 c1 c2 c3 c4 c5 c6 c7 k0 k1 k2 k3 k4 k5 k6 k7 HU hW0 HL;have OE:BR (w1.alloc (Y GL 132)) w1 GL 132:=Ah w1 _;have dj:=World.setRow_alloc_new w1 GL (DQ AW room z4 z5 z6 z7 n base loc bs lc) 132
   go_upto_region 11 with(first
    |(refine RH rfl 132 (.tmp 11) (.tmp 34) rfl w1.heap.size (DQ AW room z4 z5 z6 z7 n base loc bs lc) rfl rfl 132 GL OE Ay rfl (by simp[Value.oneCell']) ?_))
   try rw[dj]
   clear OE dj;have hk2:=Ah w1 (Y (DQ AW room z4 z5 z6 z7 n base loc bs lc) 132);have hu2:=(AV w1).alloc (Y (DQ AW room z4 z5 z6 z7 n base loc bs lc) 132);obtain⟨W2,hW2⟩:=gX (w1.alloc (Y (DQ AW room z4 z5 z6 z7 n base loc bs lc) 132));obtain⟨qb,UV⟩:=gX w1.heap.size;rw[hW2]at hk2 hu2|-;rw[UV]at hk2|-;have Kq:=I hk2;have Cm:=I (GR.trans hu2);have HQL:=I (gE hk2).1;clear hW2 UV hk2 hu2;have MK:=I (show wr.heap.size<=W2.heap.size from Cm.size)
   go_upto_region 14 with(first
    |(refine Hl rfl 132 (.tmp 11) rfl qb rfl 132 (DQ AW room z4 z5 z6 z7 n base loc bs lc) (0,0) _ Kq Tryz.underlying132 rfl Ay ?_)
    |(at_builtin;refine Jk (news:=[.int .i64 1,.int .i64 AW,.int .i64 1,.int .i64 room,.int .i64 z4,.int .i64 z5,.int .i64 z6,.int .i64 z7,.int .i64 AW,.int .i64 n,.int .i64 1,.int .i64 base,.int .i64 loc,.int .i64 room,.int .i64 0,.int .i64 0,.int .i64 0,.int .i64 0,.int .i64 0,.int .i64 0,.int .i64 0,.int .i64 bs,.int .i64 lc]) rfl (.tmp 38) (.tmp 40) 97 rfl wr.heap.size (gi I5) _ _ _ Tryz.underlying97 (g0 I5) (g1 I5) (g2 I5) (g3 I5) rfl AQ _ 0 [] rfl (C3 _ _ _ _) rfl rfl (by simp[Value.oneCell']) AQ AQ MK ?_;intro g5 cap5 w5 hown5 hg5 bJ KJ Lf))
   have MC:=I ((hg5.block qb HQL (show some qb≠(none:Option Nat)from Az)).trans Kq);have Kr:=I (show Up wr w5 from DL Cm Lf);have UU:=I hown5;clear hown5 hg5 bJ KJ Lf;go_wp2_with(refine Hl rfl 132 (.tmp 11) rfl qb rfl 132 (DQ AW room z4 z5 z6 z7 n base loc bs lc) (0,0) _ MC Tryz.underlying132 rfl Ay ?_)
   refine(HS _).mono ?_;rintro e w6 ⟨⟨v,rfl,hv⟩,Kb⟩;obtain⟨Av,cv,rfl,hat⟩:=hv.at';have HAT:=I hat;have M6:=I ((Kb.block _ (gE MC).1).trans MC);have ME:=I (Kr.trans Kb);have OJ:=I (AS UU λk e=>Kb.block k (UU.lt k e).2);clear Kb hv hat Kq Cm HQL MK MC Kr UU;go_wp2_with fail;refine(HC _ _ _ HAT).mono ?_;rintro e w7 ⟨rfl,Qd⟩;have Yo:=I ((Qd.block _ (gE M6).1).trans M6);have o8:=I (ME.trans Qd);have Yq:=I (AS OJ λk e=>Qd.block k (OJ.lt k e).2);clear Qd HAT M6 ME OJ;go_wp2_with(refine Hl rfl 132 (.tmp 11) rfl qb rfl 132 (DQ AW room z4 z5 z6 z7 n base loc bs lc) (0,0) _ Yo Tryz.underlying132 rfl Ay ?_)
   refine(HZ _).mono ?_;rintro e w8 ⟨rfl,Vs⟩;have xV:=I (show Tv wr w8 (BG g5 0 1 cap5) (gh AW room z4 z5 z6 z7 n base loc bs lc)from⟨o8.trans Vs,AS Yq λk e=>Vs.block k (Yq.lt k e).2⟩);clear Vs Yo o8 Yq
   go_wp2
   go_roundw
   case rel=>exact .inr ⟨by first|rfl|go_num,xV⟩
   case measure=>simp[intOf]
  .have sD:=I HN.out;clear HN c0 c1 c2 c3 c4 c5 c6 c7 k0 k1 k2 k3 k4 k5 k6 k7 hW0
   go_wp2
   go_ret2;exact⟨_,rfl,sD⟩
theorem Ns(l:List SD):∀u∈l.flatMap stripL,u.oneCell'=true:=λu hu=>by
 obtain⟨e,-,hu⟩:=FZ.1 hu;simp only[stripL,BJ,kA,or_false]at hu;rcases hu with rfl|rfl|rfl<;>rfl
structure gz (w wr:tyW)(ov:tyV)(l:List SD):Prop where
 up:Up w wr
 row:BK wr w.heap.size ov l
theorem Sl(AW n base loc room z4 z5 z6 z7 bs lc:tyI)(l:List SD)(g cap:tyN)(w:tyW)(hl:l.length<=1000)
  (hc:∀j u,((gh AW room z4 z5 z6 z7 n base loc bs lc):List Value)[j]?=some u->V w g j u)
  (hS:∀W,Calls Tryz.prog 77 #[.agg (DQ AW room z4 z5 z6 z7 n base loc bs lc)] W λe w'=>(∃v,e=BA v/\BK w' W.heap.size v l)/\Up W w'):
  Calls Tryz.prog 51 #[BG g 0 1 cap] w λe w'=> ∃ov,e=BA ov/\gz w w' ov l:=by
 have HS:=I hS;have HR:=I (show w.rangeAt g 0 (gh AW room z4 z5 z6 z7 n base loc bs lc)from λj u h=>by rw[Dw];exact hc j u h);have xB:=I hl;clear hS hc hl;go_enter Tryz.func51,Tryz.ntmps51;go_wp2_with fail
 go_loopw[3,8] (λov iv wr=>(iv=()/\ov=sN/\wr=w)\/(iv=O 1/\Hid (gz w wr ov l))) (λ_ iv _=>(1-intOf iv).toNat)
 case atStart=>exact .inl ⟨rfl,rfl,rfl⟩
 case round=>
  rcases hrel with⟨rfl,rfl,rfl⟩|⟨rfl,HN⟩
  .have OE:BR (wr.alloc (Y GL 132)) wr GL 132:=Ah wr _;have dj:=World.setRow_alloc_new wr GL (DQ AW room z4 z5 z6 z7 n base loc bs lc) 132
   go_upto_region 5 with(first
    |(refine bo rfl 132 (.tmp 10) rfl g 0 ?_ (gh AW room z4 z5 z6 z7 n base loc bs lc) _ HR Tryz.underlying132 rfl Ay ?_; · (first|rfl|(simp;done)))
    |(refine RH rfl 132 (.tmp 5) (.tmp 11) rfl wr.heap.size (DQ AW room z4 z5 z6 z7 n base loc bs lc) rfl rfl 132 GL OE Ay rfl (by simp[Value.oneCell']) ?_))
   try rw[dj]
   clear OE dj;have hk2:=Ah wr (Y (DQ AW room z4 z5 z6 z7 n base loc bs lc) 132);have hu2:=(AV wr).alloc (Y (DQ AW room z4 z5 z6 z7 n base loc bs lc) 132);obtain⟨W2,hW2⟩:=gX (wr.alloc (Y (DQ AW room z4 z5 z6 z7 n base loc bs lc) 132));obtain⟨qb,UV⟩:=gX wr.heap.size;rw[hW2]at hk2 hu2|-;have HQB:=I UV;rw[UV]at hk2|-;have Kq:=I hk2;have Cm:=I hu2;clear hW2 UV hk2 hu2;go_wp2_with(refine Hl rfl 132 (.tmp 5) rfl qb rfl 132 (DQ AW room z4 z5 z6 z7 n base loc bs lc) (0,0) _ Kq Tryz.underlying132 rfl Ay ?_)
   refine(HS _).mono ?_;rintro e w6 ⟨⟨v,rfl,hv⟩,Kb⟩;have HV:=I hv;have ME:=I (Cm.trans Kb);have EK:=I (show wr.heap.size<=w6.heap.size from ME.size);have hbb:(0+l.length)*24<=140737488355328:=by have:=xB.out;omega
   clear Kb hv Kq Cm;go_upto_region 6 with(at_builtin;refine Dm rfl (.tmp 12) (.tmp 14) 103 rfl wr.heap.size 152 (gi EG) _ _ _ Tryz.underlying103 (g0 EG) (g1 EG) (g2 EG) (g3 EG) rfl AQ _ 0 [] rfl (C3 _ _ _ _) W2.heap.size _ l.length (l.flatMap stripL) rfl HV (Ns l) AQ hbb EK ?_;intro v5 w5 hown5 hg5 Lf bJ)
   have xV:=I (show gz wr w5 v5 l from⟨DL ME Lf,by
    unfold BK
    simpa using hown5⟩)
   clear hown5 hg5 Lf bJ hbb
   go_wp2
   go_roundw
   case rel=>exact .inr ⟨by first|rfl|go_num,xV⟩
   case measure=>simp[intOf]
  .have sD:=I HN.out;clear HN
   go_wp2
   go_ret;exact⟨_,rfl,sD⟩
def Gt (r:P7):Value:= .agg #[r.kind,r.base,r.loc,r.n,r.writer,r.reader,r.top]
def X7 (r:P7):Obj:= .cells #[r.kind,r.base,r.loc,r.n,r.writer,r.reader,r.top] 130
structure zz (w:tyW)(b:tyN)(r:P7):Prop where
 c0:V w b 0 r.kind
 c1:V w b 1 r.base
 c2:V w b 2 r.loc
 c3:V w b 3 r.n
 c4:V w b 4 r.writer
 c5:V w b 5 r.reader
 c6:V w b 6 r.top
theorem U6(w:tyW)(r:P7):zz (w.alloc (X7 r)) w.heap.size r:=by
 have hb:=Ah w (X7 r);exact⟨Ar _ _ 0 _ _ _ hb,Ar _ _ 1 _ _ _ hb,Ar _ _ 2 _ _ _ hb,Ar _ _ 3 _ _ _ hb,Ar _ _ 4 _ _ _ hb,Ar _ _ 5 _ _ _ hb,Ar _ _ 6 _ _ _ hb⟩
theorem T8(r:P7)(me:tyI)(w:tyW)(hm:0<=me):Calls Tryz.prog 251 #[Gt r,me] w λe w'=>e=BA (.bool (decide (me<r.n)))/\Up w w':=by
 have HB:=I (U6 w r);have HU:=I ((AV w).alloc (X7 r));unfold Gt;unfold X7 at HB HU;obtain⟨k,b,lo,n,wr,rd,top⟩:=r;dsimp only at HB HU|-;obtain⟨W0,hW0⟩:=gX (w.alloc (Y #[k,b,lo,n,wr,rd,top] 130));obtain⟨c0,c1,c2,c3,c4,c5,c6⟩:=HB.out;rw[hW0]at c0 c1 c2 c3 c4 c5 c6;rw[hW0]at HU;clear HB;go_enter Tryz.func251,Tryz.ntmps251;go_wp2_with fail
 try rw[hW0]
 go_wp2
 go_ret;exact⟨rfl,HU⟩
def Nb (r:P7)(me:tyI):Bool:=if r.kind=7 then decide (me<r.n)else me==r.writer
def PX (r:P7)(me:tyI):Bool:=if r.kind=6\/r.kind=7 then decide (me<r.n)else r.reader== -1||me==r.reader
theorem VQ(r:P7)(me:tyI)(w:tyW)(hm:0<=me)(hk:2<=r.kind/\r.kind<=7):Calls Tryz.prog 228 #[Gt r,me] w λe w'=>e=BA (.bool (Nb r me))/\Up w w':=by
 have HB:=I (U6 w r);have HU:=I ((AV w).alloc (X7 r));have HA:=I (λW=>T8 r me W hm);unfold Gt at HA|-;unfold X7 at HB HU;obtain⟨k,b,lo,n,wr,rd,top⟩:=r;dsimp only at HB HU HA hk|-;obtain⟨W0,hW0⟩:=gX (w.alloc (Y #[k,b,lo,n,wr,rd,top] 130));obtain⟨c0,c1,c2,c3,c4,c5,c6⟩:=HB.out;rw[hW0]at c0 c1 c2 c3 c4 c5 c6;rw[hW0]at HU;clear HB;by_cases h7:k=7
 .subst h7;have HE:Hid (Nb ⟨7,b,lo,n,wr,rd,top⟩ me=decide (me<n)):=I rfl;go_enter Tryz.func228,Tryz.ntmps228;go_wp2_with fail
  try rw[hW0]
  go_wp2_with fail;refine(HA W0).mono ?_;rintro _ w2 ⟨rfl,hu⟩;have Cm:=I (HU.trans hu);clear hu
  go_wp2
  go_ret;exact⟨by rw[HE];rfl,Cm⟩
 .have ik:(k==7)=false:=Dy.2 h7;have hk1:(k==1)=false:=Dy.2 J;have HE:Hid (Nb ⟨k,b,lo,n,wr,rd,top⟩ me=(me==wr)):=I (by unfold Nb;rw[AI h7]);clear h7 hk HA;go_enter Tryz.func228,Tryz.ntmps228;go_wp2_with fail
  try rw[hW0]
  go_wp2
  go_ret;exact⟨by rw[HE];rfl,HU⟩
theorem XU(r:P7)(me:tyI)(w:tyW)(hm:0<=me):Calls Tryz.prog 226 #[Gt r,me] w λe w'=>e=BA (.bool (PX r me))/\Up w w':=by
 have HB:=I (U6 w r);have HU:=I ((AV w).alloc (X7 r));have HA:=I (λW=>T8 r me W hm);unfold Gt at HA|-;unfold X7 at HB HU;obtain⟨k,b,lo,n,wr,rd,top⟩:=r;dsimp only at HB HU HA|-;obtain⟨W0,hW0⟩:=gX (w.alloc (Y #[k,b,lo,n,wr,rd,top] 130));obtain⟨c0,c1,c2,c3,c4,c5,c6⟩:=HB.out;rw[hW0]at c0 c1 c2 c3 c4 c5 c6;rw[hW0]at HU;clear HB;have hor:k=6\/k=7\/(k≠6/\k≠7):=J;rcases hor with h|h|h
 iterate 2
  .subst h;go_enter Tryz.func226,Tryz.ntmps226;go_wp2_with fail
   try rw[hW0]
   go_wp2_with fail;refine(HA W0).mono ?_;rintro _ w2 ⟨rfl,hu⟩;have Cm:=I (HU.trans hu);clear hu
   go_wp2
   go_ret;exact⟨rfl,Cm⟩
 .have ZH:(k==6)=false:=Dy.2 h.1;have ik:(k==7)=false:=Dy.2 h.2;have HE:Hid (PX ⟨k,b,lo,n,wr,rd,top⟩ me=(rd== -1||me==rd)):=I (by unfold PX;rw[AI (Cw h)]);clear h HA;by_cases hr:rd= -1
  .subst hr;go_enter Tryz.func226,Tryz.ntmps226;go_wp2_with fail
   try rw[hW0]
   go_wp2
   go_ret;exact⟨by rw[HE];rfl,HU⟩
  .have hrb:(rd== -1)=false:=Dy.2 hr;clear hr;go_enter Tryz.func226,Tryz.ntmps226;go_wp2_with fail
   try rw[hW0]
   go_wp2
   go_ret;exact⟨by rw[HE,hrb];rfl,HU⟩
def Zw (k:tyI):Int:=if k=2\/k=4 then 1 else if k=3\/k=7 then 255 else if k=6 then 1048576 else 1099511627776
theorem Un(k:tyI)(w:tyW)(hk:2<=k/\k<=7):Calls Tryz.prog 124 #[k] w λe w'=>e=BA (O (Zw k))/\w'=w:=by
 have h:k=2\/k=3\/k=4\/k=5\/k=6\/k=7:=J;rcases h with h|h|h|h|h|h
 iterate 6
  .subst h;go_enter Tryz.func124,Tryz.ntmps124
   go_wp2
   go_ret;exact⟨rfl,rfl⟩
theorem YO(a m t:tyI)(w:tyW)(ha:0<=a/\a<=t)(hm:0<=m/\m<=1000000)(ht:t<=1000000):Calls Tryz.prog 125 #[a,m,t] w λe w'=>e=BA (.bool (decide (a+m<=t)))/\w'=w:=by
 have hw:wrap64 (a+m)=a+m:=IntWalk.wrap64_in _ J;have h0:0<=a:=ha.1;have h1:a<=t:=ha.2;go_enter Tryz.func125,Tryz.ntmps125
 go_wp2
 go_ret;exact⟨rfl,rfl⟩
theorem dO{sc:MN}{a:V4}(w:tyW)(hs:EF w sc a)(hok:XK sc)
  (oO:∀W',Up w W'->Calls Tryz.prog 49 #[AR a.TA sc.things.length a.tc,sc.AH.length] W' λe w'=>(∃ov,e=BA (.tuple #[ov,()]))/\Up W' w'):
  Calls Tryz.prog 48 #[.agg (gQ a sc)] w λe w'=>e=BA true/\Up w w':=by
 have HB0:Hid (G2 w (w.alloc (Y (FW sc a) 27)) (FW sc a)):=I ⟨AV _⟩;have QJ:=I (λ(wr:tyW) (h:G2 w wr (FW sc a))=>show V wr w 0 (AR a.TA sc.things.length a.tc)/\V wr w 1 (AR a.PA sc.AH.length a.pc)/\V wr w 2 (AR a.KA sc.picks.length a.kc)/\V wr w 3 (AR a.DA sc.draws.length a.dc)from⟨h.cell 0,h.cell 1,h.cell 2,h.cell 3⟩);have HS:=I hs;have V6:=I hok;have HLY:=I oO;have HST:=I (λ(W:tyW) (u:Up w W)=>jy W (hs.up u) hok);have hn1:(1:tyI)<=sc.AH.length:=by have:=hok.n.1;omega
 have hn2:(sc.AH.length:tyI)<=8:=by have:=hok.n.2;omega
 have bG:¬((8:tyI)<sc.things.length):=by have:=hok.t;omega
 have hn4:¬((400:tyI)<sc.picks.length):=by have:=hok.k;omega
 have hn5:¬((64:tyI)<sc.draws.length):=by have:=hok.d;omega
 obtain⟨c0,c1,c2,c3⟩:=QJ _ HB0;unfold FW at c0 c1 c2 c3;have yM:=I (λW=>Cc sc.AH.length 1 8 hn1 hn2 W);clear hs hok oO;go_enter Tryz.func48,Tryz.ntmps48;go_wp2_with fail;refine(yM _).mono ?_;rintro e w1 ⟨rfl,rfl⟩;go_wp2_with fail;have hb0:G2 w (w.alloc (Y (gQ a sc) 27)) (FW sc a):=HB0;generalize w.alloc (Y (gQ a sc) 27)=W0 at*;have HB1:=I hb0;clear hb0 HB0 bG hn4 hn5
 go_loopw[43] (λx wr=> ∃i:Nat,i<=sc.AH.length/\x=O i/\Hid (G2 w wr (FW sc a))) (λx _=>sc.AH.length-(intOf x).toNat)
 case atStart=>exact⟨0,J,rfl,HB1⟩
 case round=>
  obtain⟨i,hi,rfl,HV⟩:=hrel;clear c0 c1 c2 c3;obtain⟨c0,c1,c2,c3⟩:=QJ _ HV;by_cases hlt:i<sc.AH.length
  .have hii:(i:tyI)<sc.AH.length:=J;have hi0:(0:tyI)<=i:=J;obtain⟨b,off,A',c',eA,x0,x1,x2⟩:=(HS.up HV.w).pr i hlt;obtain⟨y1,y2⟩:=V6.pl i hlt;rw[eA];have Ea:=I hlt;have HC:=I (λj h=>y2 j h);have HCA:=I x1;have HUR:=I (AV wr);generalize sc.AH.getD i []=l at*;have hy1:¬((24:tyI)<l.length):=J;clear y1 y2 x1 x2 hlt;go_wp2_with fail
   go_loopw[52] (λx wq=> ∃j:Nat,j<=l.length/\x=O j/\Hid (Up wr wq)) (λx _=>l.length-(intOf x).toNat)
   case atStart=>exact⟨0,J,rfl,HUR⟩
   case round=>
    obtain⟨j,hj,rfl,HQ⟩:=hrel;by_cases hlj:j<l.length
    .have hji:(j:tyI)<l.length:=J;have hj0:(0:tyI)<=j:=J;obtain⟨b2,Kn,eB,z0,z1,z2⟩:=(HCA.up HQ) j hlj;have HJ:=I hlj;have HP:=I (HC j hlj);rw[eB];generalize l.getD j (0,0,0)=c at*;obtain⟨q0,q1,q2⟩:=c;dsimp only at z0 z1 z2;have HF:=I (λW=>YJ q0 q1 q2 HP W);have IK:=I (HQ.trans ((AV wr).alloc (Y #[q0,q1,q2] 65)));have hbq:=Ah wr (Y #[q0,q1,q2] 65);have k0:=cI hbq 0;have k1:=cI hbq 1;have k2:=cI hbq 2;clear hlj hbq;go_wp2_with fail;refine(HF _).mono ?_;rintro e w2 ⟨rfl,hu2⟩;have Cm:=I (IK.trans hu2);clear hu2 IK k0 k1 k2
     go_wp2
     go_roundw
     case rel=>exact⟨j+1,HJ,by first|rfl|go_num,Cm⟩
     case measure=>have:=HJ.out;simp[intOf];omega
    .have hje:j=l.length:=J;subst hje;have hnl:¬((l.length:tyI)<l.length):=J;have Yv:=I (HV.go HQ);clear HQ
     go_wp2
     go_roundw
     case rel=>exact⟨i+1,Ea,by first|rfl|go_num,Yv⟩
     case measure=>have:=Ea.out;simp[intOf];omega
  .have hie:i=sc.AH.length:=J;subst hie;have hnl:¬((sc.AH.length:tyI)<sc.AH.length):=J;have sZ:=I HV.out;clear HV hlt hi;go_wp2_with fail
   go_loopw[64] (λx wr2=> ∃i:Nat,i<=sc.picks.length/\x=O i/\Hid (G2 w wr2 (FW sc a))) (λx _=>sc.picks.length-(intOf x).toNat)
   case atStart=>exact⟨0,J,rfl,sZ⟩
   case round=>
    obtain⟨i,hi,rfl,HV⟩:=hrel;clear c0 c1 c2 c3 hnl;obtain⟨c0,c1,c2,c3⟩:=QJ _ HV;by_cases hlt:i<sc.picks.length
    .have hii:(i:tyI)<sc.picks.length:=J;have hi0:(0:tyI)<=i:=J;obtain⟨b,off,eA,x0,x1,x2⟩:=(HS.up HV.w).pk i hlt;have HP:=I (V6.pk i hlt);have Ea:=I hlt;rw[eA];generalize sc.picks.getD i Bd=p at*;have HF:=I (λW=>Xw sc.AH.length V6.n.2 p HP W);obtain⟨q0,q1,q2⟩:=p;dsimp only at x0 x1 x2 HF;have IK:=I ((AV wr).alloc (Y #[q0,q1,q2] 68));have hbq:=Ah wr (Y #[q0,q1,q2] 68);have k0:=cI hbq 0;have k1:=cI hbq 1;have k2:=cI hbq 2;clear hlt hbq hi;go_wp2_with fail;refine(HF _).mono ?_;rintro e w2 ⟨rfl,hu2⟩;have Cm:=I (HV.go (IK.trans hu2));clear hu2 IK k0 k1 k2 HV
     go_wp2
     go_roundw
     case rel=>exact⟨i+1,Ea,by first|rfl|go_num,Cm⟩
     case measure=>have:=Ea.out;simp[intOf];omega
    .have hie:i=sc.picks.length:=J;subst hie;have hnl:¬((sc.picks.length:tyI)<sc.picks.length):=J;have HV2:=I HV.out;clear HV hlt hi;go_wp2_with fail
     go_loopw[76] (λx wr3=> ∃i:Nat,i<=sc.draws.length/\x=O i/\Hid (G2 w wr3 (FW sc a))) (λx _=>sc.draws.length-(intOf x).toNat)
     case atStart=>exact⟨0,J,rfl,HV2⟩
     case round=>
      obtain⟨i,hi,rfl,HV⟩:=hrel;clear c0 c1 c2 c3 hnl;obtain⟨c0,c1,c2,c3⟩:=QJ _ HV;by_cases hlt:i<sc.draws.length
      .have hii:(i:tyI)<sc.draws.length:=J;have hi0:(0:tyI)<=i:=J;obtain⟨b,off,eA,x0⟩:=(HS.up HV.w).dr i hlt;have HP:=I (V6.dr i hlt);have Ea:=I hlt;rw[eA];unfold Bl at x0;generalize sc.draws.getD i 0=d at*;have HF:=I (λW=>Cc d 0 1073741823 HP.1 HP.2 W);clear hlt hi;go_wp2_with fail;refine(HF _).mono ?_;rintro e w2 ⟨rfl,rfl⟩;have Cm:=I HV.out;clear HV
       go_wp2
       go_roundw
       case rel=>exact⟨i+1,Ea,by first|rfl|go_num,Cm⟩
       case measure=>have:=Ea.out;simp[intOf];omega
      .have hie:i=sc.draws.length:=J;subst hie;have hnl:¬((sc.draws.length:tyI)<sc.draws.length):=J;have HV3:=I HV.out;clear HV hlt hi;go_wp2_with fail
       go_loopw[87] (λx wr4=> ∃i:Nat,i<=sc.things.length/\x=O i/\Hid (G2 w wr4 (FW sc a))) (λx _=>sc.things.length-(intOf x).toNat)
       case atStart=>exact⟨0,J,rfl,HV3⟩
       case round=>
        obtain⟨i,hi,rfl,HV⟩:=hrel;clear c0 c1 c2 c3 hnl;obtain⟨c0,c1,c2,c3⟩:=QJ _ HV;by_cases hlt:i<sc.things.length
        .have hii:(i:tyI)<sc.things.length:=J;have hi0:(0:tyI)<=i:=J;obtain⟨b,off,eA,⟨x0,x1,x2,x3⟩,x4,x5,x6,x7⟩:=(HS.up HV.w).th i hlt;have HP:=I (V6.th i hlt);have Ea:=I hlt;rw[eA];generalize sc.things.getD i I0=p at*;have HF:=I (λW=>Ue p HP W);obtain⟨q0,q1,q2,q3,q4,q5,q6,q7⟩:=p;dsimp only at x0 x1 x2 x3 x4 x5 x6 x7 HF;have IK:=I ((AV wr).alloc (Y #[q0,q1,q2,q3,q4,q5,q6,q7] 46));have hbq:=Ah wr (Y #[q0,q1,q2,q3,q4,q5,q6,q7] 46);have k0:=cI hbq 0;have k1:=cI hbq 1;have k2:=cI hbq 2;have k3:=cI hbq 3;have k4:=cI hbq 4;have k5:=cI hbq 5;have k6:=cI hbq 6;have k7:=cI hbq 7;clear hlt hbq hi;go_wp2_with fail;refine(HF _).mono ?_;rintro e w2 ⟨rfl,hu2⟩;have Cm:=I (HV.go (IK.trans hu2));clear hu2 IK k0 k1 k2 k3 k4 k5 k6 k7 HV
         go_wp2
         go_roundw
         case rel=>exact⟨i+1,Ea,by first|rfl|go_num,Cm⟩
         case measure=>have:=Ea.out;simp[intOf];omega
        .have hie:i=sc.things.length:=J;subst hie;have hnl:¬((sc.things.length:tyI)<sc.things.length):=J;have HV4:=I HV.out;have hst:¬((4000:tyI)<B3 sc.picks):=by have:=V6.out.st;omega
         clear HV hlt hi;go_wp2_with fail;refine(HST _ HV4.w).mono ?_;rintro e w2 ⟨rfl,hu2⟩;have HV5:=I (HV4.go hu2);clear hu2 HV4 c0 c1 c2 c3;obtain⟨c0,c1,c2,c3⟩:=QJ _ HV5;go_wp2_with fail;refine(HLY _ HV5.w).mono ?_;rintro e w3 ⟨⟨ov,rfl⟩,hu3⟩;have HV6:=I (HV5.go hu3);clear hu3 HV5 c0 c1 c2 c3
         go_wp2
         go_ret;exact⟨rfl,HV6.w⟩
theorem vd:(Tryz.prog.info? 3).map (λi=>(i.zero,i.size,i.bytes))=some (some (.int .i64 0),1,8):=Ay
structure tf (w wr:tyW)(n:tyN):Prop where
 up:Up w wr
 cell:∀i,i<n->∃x,V wr w i (O x)
 lt:w.heap.size<wr.heap.size
 fz:∀i,wr.frozen? (aD w i)=false
theorem tf.grow{wr:tyW}{n:tyN}(h:tf w wr n)(u:Up wr w'):tf w w' n:=
 ⟨h.up.trans u,λi hi=>(h.cell i hi).imp λx hx=>(u.cell h.lt).trans hx,B5 h.lt u.size,λi=>(u.frozen h.lt).trans (h.fz i)⟩
theorem tf.set{wr:tyW}{n:tyN}(h:tf w wr n)(j:tyN)(x:tyI):tf w (wr.setCell (aD w j) x) n:=by
 refine⟨h.up.setCell (p:=aD w j) (A9 _) _,λi hi=>?_,by simpa using h.lt,λi=>by simpa[go_sem]using h.fz i⟩;obtain⟨y,hy⟩:=h.cell i hi;by_cases e:i=j
 .subst e;exact⟨x,Ek _ _ _ hy⟩
 .exact⟨y,(Ck _ _ _ _ (by simp<;>omega)).trans hy⟩
theorem M1(F:tyN)(b:tyV)(n:tyN)(hn:n<=8)(w:tyW)(hcf:∀(args:Array Value) (W:tyW),(callFunc F args).run Tryz.prog W= .ok (.enter F args) W)
  (hcall:∀t:Nat,t<n->∀W',Up w W'->Calls Tryz.prog F #[b,t] W' λe w''=>(∃x,e=BA (O x))/\Up W' w''):
  Calls Tryz.prog 28 #[n,.func (.func F) #[b] #[]] w λe w'=>(∃A m c,e=BA (AR A m c))/\Up w w':=by
 have hmk:∀W:World,(Instr.makeSlice 25 n n).run Tryz.prog W= .ok (BG W 0 n n) (W.alloc (Y (madeCells #[()] n) 3)):=λW=>
  run_make_row' 25 3 () 8 Tryz.underlying25 vd rfl .i64 .i64 n J J W
 have wS:Hid (tf w (w.alloc (Y (madeCells #[()] n) 3)) n):=I ⟨(AV w).alloc _,λi hi=>⟨0,by
  rw[tN _ _ _ _ rfl];simp[madeCells,hi]
  rw[Nat.mod_one];rfl⟩,Az,λi=>D4 _ _ i _ _ (Ah w _)⟩
 have HC:=I hcall;have HN:=I hn;clear hcall;go_enter Tryz.func28,Tryz.ntmps28;go_wp2_with fail;generalize w.alloc (Y (madeCells #[()] n) 3)=W0 at*;clear hmk
 go_loopw[11] (λt wr=> ∃j:Nat,j<=n/\t=O j/\Hid (tf w wr n)) (λt _=>n-(intOf t).toNat)
 case atStart=>exact⟨0,J,rfl,wS⟩
 case round=>
  obtain⟨j,hj,rfl,HG⟩:=hrel;by_cases hlt:j<n
  .have hji:(j:tyI)<n:=J;have hj0:(0:tyI)<=j:=J;have HJ:=I hlt;go_wp2_with fail;refine(HC j HJ wr HG.up).mono ?_;rintro e w1 ⟨⟨x,rfl⟩,hu⟩;have jE:=I (HG.grow hu);obtain⟨y,hy⟩:=jE.cell j hlt;have hf:=jE.fz j;clear hu HG;go_wp2_with fail;have HG2:=I (jE.set j x);clear hy hf jE
   go_wp2
   go_roundw
   case rel=>exact⟨j+1,J,by first|rfl|go_num,HG2⟩
   case measure=>simp[intOf];omega
  .have hje:j=n:=J;subst hje;have hnl:¬((j:tyI)<j):=J;have PP:=I HG.out;clear HG
   go_wp2
   go_ret;exact⟨⟨_,_,_,rfl⟩,PP.up⟩
theorem Qk:(Tryz.prog.info? 65).map (λi=>(i.zero,i.size,i.bytes))=some (some (.agg #[(),(),()]),3,24):=Ay
def Lb (c:CD):List Value:=[.int .i64 c.1,.int .i64 c.2.1,.int .i64 c.2.2]
theorem fw(l:List CD):∀u∈l.flatMap Lb,u.oneCell'=true:=λu hu=>by
 obtain⟨e,-,hu⟩:=FZ.1 hu;simp only[Lb,BJ,kA,or_false]at hu;rcases hu with rfl|rfl|rfl<;>rfl
theorem PO(l:List CD):(l.flatMap Lb).length=l.length*3:=by
 induction l with
 |nil=>rfl
 |cons a l ih=>rw[It,Gx,ih];simp[Lb];omega
def CM (w:tyW)(q:tyN)(v:tyV)(l:List CD):Prop:=w.ownsRow q 65 3 v l.length (l.flatMap Lb)
theorem CM.up{q:tyN}{lv:tyV}{l:List CD}(h:CM w q lv l)(u:Up w w'):CM w' q lv l:=AS h λk e=>u.block k (CX h k e).2
theorem CM.at'{q:tyN}{lv:tyV}{l:List CD}(h:CM w q lv l)(hl:0<l.length):∃b c,lv=BG b 0 l.length c/\q<=b/\b<w.heap.size/\l.length<=c/\LQ w (some ⟨b,0,none⟩) l:=by
 obtain⟨b,cap,rfl,hq,hc⟩:=D1 (0,0,0) h (λ_=>rfl) hl;obtain⟨A,c,e,hcap,_⟩:=Af h;cases e
 refine⟨b,cap,rfl,hq,(h.lt b rfl).2,hcap,λi hi=>?_⟩;obtain⟨b2,cap2,e2,_,hc2⟩:=D1 (0,0,0) h (λ_=>rfl) hi;cases e2
 exact⟨b,0,rfl,hc2 0 AQ,hc2 1 AQ,hc2 2 AQ⟩
theorem YA(l:List CD)(a:Addr)(c:tyN)(w:tyW)(hn:l.length<=1000000)(hr:LQ w (some a) l):
  Calls Tryz.prog 53 #[AR (some a) l.length c] w λe w'=> ∃v,e=BA v/\CM w' w.heap.size v l/\Up w w':=by
 have hnil:=λW:World=>Lib.run_eql_slice_nil (P:=Tryz.prog) W 66 65 (some a) l.length c 0 0 Tryz.underlying66
 have HL:=I (PO l);have HO:=I (fw l);have HN:=I hn
 have HC:=I (λ(j:tyN) (u:tyV) (hu:(l.flatMap Lb)[j]?=some u)=>show w.cell? (a.add j)=some u from by
  have hj:=(Be.1 hu).1;rw[PO]at hj;obtain⟨b,off,e,h0,h1,h2⟩:=hr (j/3) J;cases e
  have hf:=flat_get Lb 3 (0,0,0) l (j/3) (j%3) (λ_=>rfl) J J;rw[show j/3*3+j%3=j by omega]at hf;rw[hf]at hu;rw[JC,show off+j=off+j/3*3+j%3 by omega];have h3:j%3<3:=J;generalize j%3=m at*
  match m,h3 with
  |0,_=>rw[LB];rw[h0];exact hu
  |1,_=>rw[h1];exact hu
  |2,_=>rw[h2];exact hu)
 have HX:=I (λ(j:tyN) (u:tyV) (h:w.cell? (a.add j)=some u) (hu:(l.flatMap Lb)[j]?=some u)=>show(w.alloc (Y #[] 65)).cell? (a.add j)=some u from by
  have hj:=(Be.1 hu).1;rw[PO]at hj;obtain⟨b,off,e,h0,-⟩:=hr (j/3) J;cases e
  rw[JC]at h|-
  exact(CI (((AV w).alloc (Y #[] 65)).block b (AJ h))).trans h)
 obtain⟨xs,hxs⟩:=gX (l.flatMap Lb);unfold CM;rw[hxs]at HL HO HC HX|-;generalize hln:l.length=n at HL HN hnil|-;clear hr hn hxs hln;go_enter Tryz.func53,Tryz.ntmps53;go_wp2_with(at_builtin;refine wpList_append_own_at _ rfl (.tmp 5) (.tmp 6) 66 rfl w.heap.size 65 (gi Qk) _ _ _ Tryz.underlying66 (g0 Qk) (g1 Qk) (g2 Qk) (g3 Qk) rfl AQ _ 0 [] rfl ?_ a n c xs rfl HL ?_ HO ?_ ?_ ?_ ?_)
 case _=>exact⟨rfl,.inr ⟨w.heap.size,0,#[],rfl,A9 _,Ah w _,AQ,AQ,Az⟩⟩
 case _=>
  intro j u hu;exact HX j u (HC j u hu) hu
 case _=>have:=HN.out;unfold maxLen;omega
 case _=>have:=HN.out;omega
 case _=>simp
 .intro v1 w1 hown1 hg _ _;have HOW:=I (show w1.ownsRow w.heap.size 65 3 v1 n xs from by simpa using hown1);have HU:=I (show Up w w1 from DL ((AV w).alloc _) (grownBy_below hg Az (λk e=>by simp[Value.ownBlock]at e;omega)));clear hown1 hg
  go_wp2
  go_ret;exact⟨_,rfl,HOW,HU⟩
theorem ZT(c:tyN)(w:tyW):Calls Tryz.prog 53 #[AR none 0 c] w λe w'=>e=BA sN/\w'=w:=by
 have hnil:=λW:World=>Lib.run_eql_slice_nil (P:=Tryz.prog) W 66 65 none 0 c 0 0 Tryz.underlying66
 go_enter Tryz.func53,Tryz.ntmps53
 go_wp2
 go_ret;exact⟨rfl,rfl⟩
theorem Z5(l:List CD)(A:tyA)(c:tyN)(w:tyW)(hn:l.length<=1000000)(hr:LQ w A l):
  Calls Tryz.prog 53 #[AR A l.length c] w λe w'=> ∃v,e=BA v/\CM w' w.heap.size v l/\Up w w':=by
 cases A with
 |some a=>exact YA l a c w hn hr
 |none=>
  obtain rfl:l=[]:=by
   cases l with
   |nil=>rfl
   |cons x l=>obtain⟨b,off,e,-⟩:=hr 0 (Nat.zero_lt_succ _);cases e
  exact(ZT c w).mono λe w' h=>⟨_,h.1,⟨rfl,.inl ⟨rfl,rfl⟩⟩,by rw[h.2];exact AV _⟩
end
end Go.Proofs.YtpodgcpkccpnfaaGreat
