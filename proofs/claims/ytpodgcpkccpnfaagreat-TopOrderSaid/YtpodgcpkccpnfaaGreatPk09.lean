import Derived.Shelf.SlSorted.Search
import Derived.RegionTactic
import Derived.Test.YtpodgcpkccpnfaaGreatPk08
set_option linter.unusedVariables false
set_option linter.unusedSimpArgs false
set_option maxRecDepth 20000
set_option maxHeartbeats 40000000
namespace Go.Proofs.YtpodgcpkccpnfaaGreat
variable{s:BS}{c c':CS}{cl many q:Int}{MS Vn:Int->Nat->Value}{F F1:Int->Option Nat}{u u1:List (Int×CS)}{rs:List (Int×SD)}{l:List SD}{B N N' g h k m sz:Nat}{by':Nat->Bool×Int}{X X3:Nat->Prop}{ms ms':Nat->Value}{R:Value}{W w w' w1 w2 w3 w4:World}
section
open Go.RowKit
theorem ao(top:tyI):AZ top 1099511627776=BC top 0 1099511627776:=rfl
def AAj (k T:tyI):Array Value:= #[.int .i64 k,.int .i64 T,.int .i64 0,.bool false,.bool false,.int .i64 0,.bool false,.slice none 0 0,.bool false,.bool false,.int .i64 0,.bool false,.slice none 0 0,.bool false,.bool false,.int .i64 0,.bool false,.slice none 0 0,.bool false,.bool false,.int .i64 0,.bool false,.slice none 0 0,.bool false,.bool false,.int .i64 0,.bool false,.slice none 0 0,.bool false,.bool false,.int .i64 0,.bool false,.slice none 0 0,.bool false,.bool false,.int .i64 0,.bool false,.slice none 0 0,.bool false,.bool false,.int .i64 0,.bool false,.slice none 0 0]
theorem wD{kind T:tyI}(hb:BR W h (AAj kind T) 194):CellIs W h h ⟨kind,T,0,λ_=>Jx⟩ (λ_=>sN):=by
 refine⟨BP (gE hb).1,Ar _ _ 0 _ _ _ hb,Ar _ _ 1 _ _ _ hb,Ar _ _ 2 _ _ _ hb,λi hi=>?_,λj=>D4 _ _ j _ _ hb,λi hi=> .inl ⟨rfl,.inl ⟨rfl,rfl⟩⟩,λi hi=>by simp[Value.ownBlock],λi j hi hj hne k hk=>by simp[Value.ownBlock]⟩;have h8:i=0\/i=1\/i=2\/i=3\/i=4\/i=5\/i=6\/i=7:=J;rcases h8 with rfl|rfl|rfl|rfl|rfl|rfl|rfl|rfl
 all_goals exact⟨Ar _ _ _ _ _ _ hb,Ar _ _ _ _ _ _ hb,Ar _ _ _ _ _ _ hb,Ar _ _ _ _ _ _ hb,Ar _ _ _ _ _ _ hb⟩
theorem qZ(kind top:tyI)(w:tyW):Calls Tryz.prog 172 #[kind,top] w λe w'=>e=BA (pT w)/\CellIs w' w.heap.size w.heap.size (CS.new kind top) (λ_=>sN)/\Up w w':=by
 have Px:=I (Cu top 1099511627776);go_enter Tryz.func172,Tryz.ntmps172;go_wp2_with fail;refine(Px _).mono ?_;rintro e w1 ⟨rfl,rfl⟩;rw[ao];obtain⟨T,hT⟩:=gX (BC top 0 1099511627776);rw[hT];have HT:=I (show CS.new kind top=⟨kind,T,0,λ_=>Jx⟩from by unfold CS.new;rw[hT]);clear hT
 go_wp2
 go_ret;rw[HT];exact⟨rfl,wD (Ah w1 (Y (AAj kind T) 194)),(AV w1).alloc _⟩
theorem Do.put(g:Do c N)(t:tyN)(a:QA)(h1:a.on=true->a.wr=false->c.kind=2->0<a.may.length)(h2:a.may.length<=N):Do (c.put t a) N:=by
 refine⟨λi hi=>?_,λi hi=>?_⟩
 .unfold CS.put;by_cases e:i=t
  .simp only[AK e];exact h1
  .simp only[AI e];exact g.pos i hi
 .unfold CS.put;by_cases e:i=t
  .simp only[AK e];exact h2
  .simp only[AI e];exact g.few i hi
theorem Do.more{M:tyN}(g:Do c N)(h:N<=M):Do c M:=⟨g.pos,λi hi=>DB (g.few i hi) h⟩
theorem Do.wr(g:Do c N)(v:tyI)(n:tyN):Do (Ju c v n) (N+1):=by
 have hk:=(NS c v n).1;refine⟨λi hi h1 h2 h3=>?_,λi hi=>?_⟩
 .rw[hk]at h3;rw[Nk]at h1 h2|-;split at h1
  .rename_i hc;rw[AK hc]at h2|-;unfold aJ;simp[AK h3]
  .rename_i hc;rw[AI hc]at h2|-;exact g.pos i hi h1 h2 h3
 .have:=g.few i hi;rw[Nk];split
  .unfold aJ;dsimp only;split
   .simp;omega
   .omega
  .omega
theorem Do.begin(g:Do c N)(t k v:tyI):Do (c.begin t k v).2 (N+9):=by
 unfold CS.begin;split
 .exact g.more J
 split
 .exact g.more J
 split
 .refine(g.more J).put _ _ (λ_ _ h=>Mu c h 8) ?_;have:=JS c 8;omega
 .exact((g.wr _ 8).more J).put _ _ (λ_ h=>absurd h Az) Az
theorem Do.Bm(g:Do c N)(t d:tyI):Do (c.Bm t d).2.2 N:=by
 unfold CS.Bm;have hp:Do (c.put t.toNat Jx) N:=g.put _ _ (λh=>absurd h (by simp[Jx])) (by simp[Jx]);split
 .exact g
 split
 .exact g
 split
 .exact⟨hp.pos,hp.few⟩
 .exact hp
theorem Do.new(kind top:tyI):Do (CS.new kind top) 0:=⟨λi hi h=>absurd h (by simp[CS.new,Jx]),λi hi=>by simp[CS.new,Jx]⟩
theorem CellIs.keep(H:CellIs w h B c ms)(hs:w.heap.size<=w'.heap.size)(hh:hSM w' w h)(hm:∀i,i<8->∀k,(ms i).ownBlock=some k->hSM w' w k):CellIs w' h B c ms:=by
 have cc:∀j,w'.cell? (aD h j)=w.cell? (aD h j):=λj=>CI hh
 refine⟨DB H.sz hs,(cc _).trans H.k0,(cc _).trans H.k1,(cc _).trans H.k2,λi hi=>?_,λj=>(C4 hh).trans (H.fz j),λi hi=>(H.own i hi).same hs λk hkk=>hm i hi k hkk,H.apart,H.two⟩;obtain⟨y0,y1,y2,y3,y4⟩:=H.acc i hi;exact⟨(cc _).trans y0,(cc _).trans y1,(cc _).trans y2,(cc _).trans y3,(cc _).trans y4⟩
structure D5 (w:tyW)(B h m:tyN)(R:tyV)(many:tyI)(rs:List (Int×SD))(by':Nat->Bool×Int)(sz:tyN)(F:Int->Option Nat):Prop where
 blk:Hj w h R many m by'
 row:w.ownsRow B 154 4 R rs.length (F6 rs)
 map:NO w m sz F
 hm:h≠m
 rh:R.ownBlock≠some h
 rm:R.ownBlock≠some m
 yq:B<=h
 gem:B<=m
theorem D5.keep(H:D5 w B h m R many rs by' sz F)
  (eh:hSM w' w h) (em:hSM w' w m) (er:∀k,R.ownBlock=some k->hSM w' w k):D5 w' B h m R many rs by' sz F:=
 ⟨H.blk.same eh,AS H.row er,H.map.up em,H.hm,H.rh,H.rm,H.yq,H.gem⟩
theorem D5.up(H:D5 w B h m R many rs by' sz F)(u:Up w w'):D5 w' B h m R many rs by' sz F:=
 H.keep (u.block h H.blk.lt) (u.block m H.map.isLt) λk e=>u.block k (H.row.lt k e).2
def XY (many:tyI)(m:tyN):Array Value:= #[.slice none 0 0,.int .i64 many,.map (some m),.bool false,.int .i64 0,.bool false,.int .i64 0,.bool false,.int .i64 0,.bool false,.int .i64 0,.bool false,.int .i64 0,.bool false,.int .i64 0,.bool false,.int .i64 0,.bool false,.int .i64 0]
theorem gZ{t:TypeId}(hb:BR W h (XY many m) t):Hj W h sN many m (λ_=>(false,0)):=by
 refine⟨Ar _ _ 0 _ _ _ hb,Ar _ _ 1 _ _ _ hb,Ar _ _ 2 _ _ _ hb,λi hi=>?_,λi hi=>?_,λj=>D4 _ _ j _ _ hb⟩
 all_goals
  have h8:i=0\/i=1\/i=2\/i=3\/i=4\/i=5\/i=6\/i=7:=J;rcases h8 with rfl|rfl|rfl|rfl|rfl|rfl|rfl|rfl
  all_goals exact Ar _ _ _ _ _ _ hb
theorem iE(w:tyW)(B:tyN)(many:tyI)(t:TypeId)(hB:B<=w.heap.size):D5 ((w.alloc (.map #[] 0)).alloc (Y (XY many w.heap.size) t)) B (w.heap.size+1) w.heap.size sN many [] (λ_=>(false,0)) 0 (λ_=>none):=by
 have hb:=Ah (w.alloc (.map #[] 0)) (Y (XY many w.heap.size) t);rw[Cy]at hb;have hM:=Z9 ((World.ownsMap_made w Tryz.prog 3 Q1).alloc (Y (XY many w.heap.size) t));exact⟨gZ hb,⟨rfl,.inl ⟨rfl,rfl⟩⟩,hM,J,by simp[Value.ownBlock],by simp[Value.ownBlock],J,hB⟩
theorem VR{B h m g1 cap:tyN}{r:Int×SD}(H:D5 w B h m R many rs by' sz F)(u:Up w W)
  (hown:w1.ownsRow B 154 4 (BG g1 0 (rs.length+1) cap) (rs.length+1) (F6 rs++TI r)) (hg:W.grownBy w1 R.ownBlock) (hor:R.ownBlock=some g1\/w.heap.size<=g1):
  (V w1 h 0 R/\w1.frozen? (aD h 0)=false)/\D5 (w1.setCell (aD h 0) (BG g1 0 (rs.length+1) cap)) B h m (BG g1 0 (rs.length+1) cap) many (rs++[r]) by' sz F:=by
 have hk:∀k,k<w.heap.size->R.ownBlock≠some k->hSM w1 w k:=λk h1 h2=>(hg.block k (B5 h1 u.size) (λe=>h2 e.symm)).trans (u.block k h1)
 have hh:hSM w1 w h:=hk h H.blk.lt H.rh;have hmm:hSM w1 w m:=hk m H.map.isLt H.rm
 have hgh:g1≠h:=by
  rcases hor with e|e
  .exact λe2=>H.rh (by rw[<-e2];exact e)
  .have:=H.blk.lt;omega
 have hgm:g1≠m:=by
  rcases hor with e|e
  .exact λe2=>H.rm (by rw[<-e2];exact e)
  .have:=H.map.isLt;omega
 have k0:V w1 h 0 R:=(CI hh).trans H.blk.k0;have ho:∀j,j≠0->(w1.setCell (aD h 0) (BG g1 0 (rs.length+1) cap)).cell? (aD h j)=w.cell? (aD h j):=λj hj=>(Ck _ _ _ _ (by simp<;>omega)).trans (CI hh)
 refine⟨⟨k0,(C4 hh).trans (H.blk.fz 0)⟩,⟨⟨Ek _ _ _ k0,(ho 1 AQ).trans H.blk.k1,(ho 2 AQ).trans H.blk.k2,λt ht=>(ho _ J).trans (H.blk.on t ht),λt ht=>(ho _ J).trans (H.blk.at' t ht),λj=>?_⟩,?_,?_,H.hm,?_,?_,H.yq,H.gem⟩⟩
 .have:(w1.setCell (aD h 0) (BG g1 0 (rs.length+1) cap)).frozen? (aD h j)=w1.frozen? (aD h j):=by simp[go_sem]
  rw[this];exact(C4 hh).trans (H.blk.fz j)
 .rw[Gx,Sr];refine AS (by simpa[F6]using hown) λk e=>BF w1 ⟨h,0,none⟩ _ k (show k≠h from ?_)
  simp only[Value.ownBlock,Dt]at e;omega
 .exact H.map.up ((BF w1 ⟨h,0,none⟩ _ m (λe=>H.hm e.symm)).trans hmm)
 .simp only[Value.ownBlock,ne_eq,Dt];exact hgh
 .simp only[Value.ownBlock,ne_eq,Dt];exact hgm
theorem kh(w:tyW)(news:List Value)(e:TypeId):∀j u,news[j]?=some u->(w.alloc (Y news.toArray e)).drew.cell? ((⟨w.heap.size,0,none⟩:Addr).add j)=some u:=λj u h=>CQ w news e j u h
theorem pN:Tryz.prog.info? 154=some Tryz.t154:=Ay
theorem WL:∃i,Tryz.prog.info? 154=some i/\i.zero=some (.agg #[(),(),(),()])/\i.size=4/\i.bytes=32:=⟨_,pN,Ay,Ay,Ay⟩
def Lp (l:List SD)(w:tyW)(e:Ending)(w':tyW):Prop:=
 if(countP l).2≠0 then e=BA (.tuple #[.pointer none,O (countP l).2])/\Up w w'
 else∃h m R,e=BA (.tuple #[pT h,()])/\D5 w' w.heap.size h m R (countP l).1 (DM l l.length) (λ_=>(false,0)) 0 (λ_=>none)/\Up w w'
theorem qD{s:SD}(h:Gd s=true):0<=s.many:=by
 unfold Gd at h;rw[Fh]at h;exact Il h.1
theorem cD{n:tyN}(hk:k<=n)(h:F5 l n=true):F5 l k=true:=by
 unfold F5 at h|-;rw[Ts]at h|-;intro x hx;exact h x (Dz.2 (by have:=Dz.1 hx;omega))
theorem TV{l:List SD}{n:tyN}(h:F5 l n=true)(hc:Cl l n<=32768):∀k,k<=n->Cl l (n-k)<=32768
 |0,_=>hc
 |k+1,hk=>by
  have ih:=TV h hc k J;obtain⟨j,hj⟩:∃j,n-k=j+1:=⟨n-k-1,J⟩;rw[hj]at ih;rw[show n-(k+1)=j by omega];have h1:=cD (show j+1<=n by omega) h;rw[PD,Fh]at h1;have h2:=qD h1.2;have h3:=NQ h1.1;unfold Cl Jg at ih;split at ih<;>split at ih<;>omega
theorem lr(h:F5 l l.length=true)(hc:Cl l l.length<=32768):∀k,k<=l.length->0<=FT l k/\FT l k<=32768:=by
 intro k hk;have h1:=cD hk h;have h2:=TV h hc (l.length-k) J;rw[show l.length-(l.length-k)=k by omega]at h2;rw[VW h1 h2];exact⟨(NQ h1).1,h2⟩
theorem mQ(l:List SD)(A:tyA)(c:tyN)(w:tyW)(hl:l.length<=100000)(hr:Dx w A l):
  Calls Tryz.prog 50 #[AR A l.length c] w (Lp l w):=by
 have hmm:= @run_makeMap Tryz.prog;have HCO:=I (fp l A c w J hr);have HR:=I hr;have ot:(l.length:tyI)<=100000:=J;by_cases he:(countP l).2≠0
 .have HN:Hid (∀e w',(e= .returned (.tuple #[.pointer none,O (countP l).2])/\Up w w')->Lp l w e w'):=I (λe w' h=>by unfold Lp;rw[AK he];exact h);have hb:((countP l).2 !=0)=true:=by rw[Ol];exact he
  generalize countP l=cp at*;obtain⟨c1,c2⟩:=cp;dsimp only at*;clear hr hl he;go_enter Tryz.func50,Tryz.ntmps50;go_wp2_with fail;refine HCO.mono ?_;rintro e w1 ⟨rfl,hu1⟩;have GR:=I hu1;clear hu1
  go_wp2
  go_ret2;exact HN _ _ ⟨rfl,GR⟩
 .have he0:(countP l).2=0:=J
  have hcp:countP l=(Cl l l.length,0)/\F5 l l.length=true/\Cl l l.length<=32768:=by
   unfold countP at he0|-;split at he0
   .rename_i ha;split at he0
    .cases he0
    .rename_i hc;rw[AK ha,AI hc];exact⟨rfl,ha,J⟩
   .cases he0
  obtain⟨e1,e2,e3⟩:=hcp;have rS:=I (lr e2 e3)
  have HN:Hid (∀e w' h m R,e= .returned (.tuple #[pT h,()])->D5 w' w.heap.size h m R (Cl l l.length) (DM l l.length) (λ_=>(false,0)) 0 (λ_=>none)->Up w w'->Lp l w e w'):=I (λe w' h m R h1 h2 h3=>by
   unfold Lp;rw[AI he,e1];exact⟨h,m,R,h1,h2,h3⟩)
  rw[e1]at HCO;dsimp only at HCO;generalize Cl l l.length=many at*;clear hr hl he he0 e1 e2 e3;go_enter Tryz.func50,Tryz.ntmps50;go_wp2_with fail;refine HCO.mono ?_;rintro e w1 ⟨rfl,hu1⟩;have GR:=I hu1;have jS:=I (iE w1 w.heap.size many 150 hu1.size);unfold XY at jS;have bE:=I (show Up w ((w1.alloc (.map #[] 0)).alloc (Y #[sN,many,.map (some w1.heap.size),false,(),false,(),false,(),false,(),false,(),false,(),false,(),false,()] 150))from(hu1.alloc _).alloc _);clear hu1;go_wp2_with fail;generalize hw2:(w1.alloc (.map #[] 0)).alloc (Y #[sN,many,.map (some w1.heap.size),false,(),false,(),false,(),false,(),false,(),false,(),false,(),false,()] 150)=w2 at*;generalize w1.heap.size+1=h at*;generalize w1.heap.size=m at*;clear hw2;obtain⟨i0,hi,hz0,hz1,hz2⟩:=WL;have HI:=I hi;have HZ0:=I hz0;have HZ1:=I hz1;have HZ2:=I hz2;clear hi hz0 hz1 hz2
  go_loopw[7,24] (λe x wr=> ∃(k:tyN) (R:tyV),k<=l.length/\x=O k/\e=O (FT l k)/\Hid (D5 wr w.heap.size h m R many (DM l k) (λ_=>(false,0)) 0 (λ_=>none)/\Up w wr)) (λ_ x _=>l.length-(intOf x).toNat)
  case atStart=>exact⟨0,_,J,rfl,rfl,I ⟨jS,bE⟩⟩
  case round=>
   obtain⟨k,R,hk,rfl,rfl,HV⟩:=hrel;by_cases hlt:k<l.length
   .have hki:(k:tyI)<l.length:=J;have hk0:(0:tyI)<=k:=J;have Ea:=I hlt;obtain⟨b,off,rfl,x0,x1,x2⟩:=HR.up HV.2 k hlt;have mv:=I (rS k hk);have oe:=I (rS (k+1) hlt);have nF:Hid (FT l (k+1)=if 0<(l.getD k Fo).many then FT l k+(l.getD k Fo).many else FT l k):=I rfl;have nG:Hid (DM l (k+1)=if 0<(l.getD k Fo).many then DM l k++[(FT l (k+1),l.getD k Fo)]else DM l k):=I rfl;have HRL:=I (OW l k);generalize hq1:FT l (k+1)=E1 at*;generalize hq2:DM l (k+1)=rs1 at*;have uD:=I hq1;have HQ2:=I hq2;clear hq1 hq2;generalize FT l k=E at*;generalize DM l k=rs at*;generalize l.getD k Fo=s at*;obtain⟨M,Kd,T⟩:=s;dsimp only at x0 x1 x2 nF nG;have HB:=I (Ah wr (Y #[M,Kd,T] 152));have IK:=I ((AV wr).alloc (Y #[M,Kd,T] 152));have y0:V (wr.alloc (Y #[M,Kd,T] 152)) wr 0 M:=Ar _ _ 0 _ _ _ HB;by_cases hM:0<M
    .have he:=nF.out;have hrs:=nG.out;rw[AK hM]at he hrs
     have hw1:wrap64 (E+M)=E1:=by
      have h1:=mv.out;have h2:=oe.out;rw[he]at h2|-;exact IntWalk.wrap64_in _ J
     have rT:=I hrs;clear he hrs nF nG hk hlt;go_wp2_with fail;rw[hw1];have ZC:=I (HV.1.up IK);have Kr:=I (HV.2.trans IK);have HHW:=I HV.1.blk.lt;generalize hsz:wr.heap.size=z at*;generalize V7:wr.alloc (Y #[M,Kd,T] 152)=W5 at*;have d0:=cI HB 0;have d1:=cI HB 1;have d2:=cI HB 2;have k0:=ZC.blk.k0;have k0a:∀o,V (W5.alloc o) h 0 R:=λo=>(ZC.up ((AV W5).alloc o)).blk.k0
     have k0b:=k0a (Y #[E1,M,Kd,T] 154);have HOW:=I ZC.row;have EK:=I (show w.heap.size<=W5.heap.size from Kr.size);have ABE:=I (show w.heap.size<=((W5.alloc (Y #[E1,M,Kd,T] 154)).drew).heap.size from(Kr.trans ((AV W5).alloc _).drew).size);have HG:=I (show w.heap.size<=h/\∀k,R.ownBlock=some k->w.heap.size<=k from⟨ZC.yq,λk e=>(ZC.row.lt k e).1⟩);have HX:=I (λ(W7 w7:tyW) (g1 cap:tyN) (hU:Up W5 W7)=>VR (W:=W7) (w1:=w7) (g1:=g1) (cap:=cap) (r:=(E1,⟨M,Kd,T⟩)) ZC hU);have ox:=I (AJ d0);have HNH:Hid (z≠h):=I (by have:=HHW.out;omega);have uE:Hid (R.ownBlock≠some z):=I (λe=>by have:=(HV.out.1.row.lt z e).2;omega);have hSS:V W5.drew z 0 M/\V W5.drew z 1 Kd/\V W5.drew z 2 T:=⟨d0,d1,d2⟩;have yx:=I (λ(w':tyW) (h1:∀j,w'.cell? (aD z j)=W5.cell? (aD z j))=>(show V w' z 0 M/\V w' z 1 Kd/\V w' z 2 T from⟨(h1 0).trans d0,(h1 1).trans d1,(h1 2).trans d2⟩));have hua:Up W5 (W5.alloc (Y #[E1,M,Kd,T] 154)):=(AV W5).alloc _;have hrl:rs.length<=100000:=by have:=HRL.out;omega
     clear x0 x1 x2 y0 d0 d1 d2 hsz V7 hM hw1;refine Br (S:=λw'=>V w' z 0 M/\V w' z 1 Kd/\V w' z 2 T) Ay hSS (λhS0=>?_);clear hSS;refine tq 0 hS0 ?_;refine tq 1 hS0 ?_;refine tq 2 hS0 ?_;refine tq 3 hS0 ?_;refine tq 5 hS0 ?_;refine tq 6 hS0 ?_;refine tq 7 hS0 ?_;refine Dn (rs:=[4,8]) Ay Az ?_;refine BU rfl (λK hK=>?_) (BU rfl (λK hK=>?_) Dp)
     .go_simp;refine bk hK hS0 λhS1=>?_
      refine tr 8 λK hK=>?_
      go_simp;refine bk hK (yx _ (λj=>CI (hua.block _ ox))) λhS2=>?_
      refine tr 9 λK hK=>?_
      refine step_append_lies _ rfl (.tmp 39) (.tmp 43) 145 rfl w.heap.size 154 i0 (.agg #[(),(),(),()]) 4 32 Tryz.underlying145 HI HZ0 HZ1 HZ2 rfl AQ _ rs.length (F6 rs) rfl (AS HOW λk e=>((AV W5).alloc _).drew.block k (HOW.lt k e).2) ⟨W5.heap.size,0,none⟩ 1 1 [E1,M,Kd,T] rfl rfl (kh W5 _ _) (by simp[Value.oneCell']) AQ (by unfold maxLen;omega) J (by have:=EK.out;simp;omega) _ rfl ?_;intro g1 cap w7 Le SG SH wQ;obtain⟨⟨hc4,ij⟩,HT0⟩:=HX _ _ _ _ ((AV W5).alloc _).drew Le SG (SH.imp id (λe=>by rw[e];simp));have ik:∀k,k<W5.heap.size->R.ownBlock≠some k->hSM w7 W5 k:=λk h1 h2=>(SG.block k (B5 h1 ((AV W5).alloc _).drew.size) (λe=>h2 e.symm)).trans (((AV W5).alloc _).drew.block k h1)
      have HT:=I HT0;have dY:=ik _ ox uE
      have ZD:=I (show Up w (w7.setCell (aD h 0) (BG g1 0 (rs.length+1) cap))from by
       refine C5 (p:=aD h 0) ?_ HG.1 _
       exact(Kr.trans ((AV W5).alloc _).drew).grown SG ABE (λk e=>HG.2 k e))
      clear HT0 Le SG SH wQ ik;refine bk hK (yx _ (λj=>CI dY)) λGJ=>?_
      refine tq 10 GJ ?_;refine tq 11 GJ ?_;refine tr 12 λK hK=>?_
      go_simp;refine bk hK (yx _ (λj=>CI ((BF w7 ⟨h,0,none⟩ _ _ HNH).trans dY))) λGy=>?_
      refine CN Ay ?_ _
      try simp only[Act.put,DH,DI,DG,Ei,Ef,Ee]
      clear hS0 hS1 hS2 GJ Gy dY hc4 ij
      go_wp2
      go_roundw
      case rel=>exact⟨k+1,_,Ea,by go_num,by rw[uD],I (by rw[HQ2,rT];exact⟨HT,ZD⟩)⟩
      case measure=>simp[intOf];omega
     .go_simp;refine bk hK (yx _ (λj=>CI (hua.block _ ox))) λhS1=>?_
      refine tr 4 λK hK=>?_
      go_simp;refine bk hK hS1 λhS2=>?_
      refine tr 9 λK hK=>?_
      refine step_append_lies _ rfl (.tmp 39) (.tmp 43) 145 rfl w.heap.size 154 i0 (.agg #[(),(),(),()]) 4 32 Tryz.underlying145 HI HZ0 HZ1 HZ2 rfl AQ _ rs.length (F6 rs) rfl (AS HOW λk e=>((AV W5).alloc _).drew.block k (HOW.lt k e).2) ⟨W5.heap.size,0,none⟩ 1 1 [E1,M,Kd,T] rfl rfl (kh W5 _ _) (by simp[Value.oneCell']) AQ (by unfold maxLen;omega) J (by have:=EK.out;simp;omega) _ rfl ?_;intro g1 cap w7 Le SG SH wQ;obtain⟨⟨hc4,ij⟩,HT0⟩:=HX _ _ _ _ ((AV W5).alloc _).drew Le SG (SH.imp id (λe=>by rw[e];simp));have ik:∀k,k<W5.heap.size->R.ownBlock≠some k->hSM w7 W5 k:=λk h1 h2=>(SG.block k (B5 h1 ((AV W5).alloc _).drew.size) (λe=>h2 e.symm)).trans (((AV W5).alloc _).drew.block k h1)
      have HT:=I HT0;have dY:=ik _ ox uE
      have ZD:=I (show Up w (w7.setCell (aD h 0) (BG g1 0 (rs.length+1) cap))from by
       refine C5 (p:=aD h 0) ?_ HG.1 _
       exact(Kr.trans ((AV W5).alloc _).drew).grown SG ABE (λk e=>HG.2 k e))
      clear HT0 Le SG SH wQ ik;refine bk hK (yx _ (λj=>CI dY)) λGJ=>?_
      refine tq 10 GJ ?_;refine tq 11 GJ ?_;refine tr 12 λK hK=>?_
      go_simp;refine bk hK (yx _ (λj=>CI ((BF w7 ⟨h,0,none⟩ _ _ HNH).trans dY))) λGy=>?_
      refine CN Ay ?_ _
      try simp only[Act.put,DH,DI,DG,Ei,Ef,Ee]
      clear hS0 hS1 hS2 GJ Gy dY hc4 ij
      go_wp2
      go_roundw
      case rel=>exact⟨k+1,_,Ea,by go_num,by rw[uD],I (by rw[HQ2,rT];exact⟨HT,ZD⟩)⟩
      case measure=>simp[intOf];omega
    .have he:=nF.out;have hrs:=nG.out;rw[AI hM]at he hrs;have hd:decide (0<M)=false:=DF hM;have HEE:=I he;have rT:=I hrs;clear he hrs nF nG hk hlt
     go_wp2
     go_roundw
     case rel=>exact⟨k+1,R,Ea,by go_num,by rw[uD,HEE],I (by rw[HQ2,rT];exact⟨HV.1.up IK,HV.2.trans IK⟩)⟩
     case measure=>simp[intOf];omega
   .obtain rfl:k=l.length:=J;clear hlt hk
    go_wp2
    go_ret2;exact HN _ _ h m R rfl HV.1 HV.2
end
section
open Go.Shelf
def Tryz.aq:Go.Shelf.Ren:=⟨λ|16=>170|n=>n,λ|3=>3|35=>181|4=>4|38=>261|n=>n,λ|n=>n⟩
theorem Tryz.search:Go.Proofs.SlLaysO.n16 Tryz.prog Tryz.aq:={
 mixed:=Ay
 f16:=Tryz.func170.trans (DJ some Ay)
 t3:=Tryz.underlying3
 a3:=Tryz.isAgg3
 z3:=Tryz.sizeOf3
 v3:=Tryz.zeroValue3
 t4:=Tryz.underlying4
 a4:=Tryz.isAgg4
 z4:=Tryz.sizeOf4
 v4:=Tryz.zeroValue4
 t35:=Tryz.underlying181
 a35:=Tryz.isAgg181
 z35:=Tryz.sizeOf181
 v35:=Tryz.zeroValue181
 t38:=Tryz.underlying261
 a38:=Tryz.isAgg261
 z38:=Tryz.sizeOf261
 v38:=Tryz.zeroValue261}
end
section
open Go.RowKit Go.Shelf Go.Lib Go.Sort
theorem mS(h:w.ownsRow B 154 4 R rs.length (F6 rs)):
  ∃A c,R=AR A rs.length c/\∀k r,rs[k]?=some r->∃g,A=some ⟨g,0,none⟩/\V w g (k*4) (O r.1)/\V w g (k*4+1) (O r.2.many)/\V w g (k*4+2) (O r.2.kind)/\V w g (k*4+3) (O r.2.top):=by
 rcases h.2 with⟨hv,hn⟩|⟨g,cap,cur,hv,_⟩
 .refine⟨none,0,by rw[hv,hn],λk r hk=>?_⟩;have:=(Be.1 hk).1;omega
 .refine⟨_,cap,hv,λk r hk=>⟨g,rfl,?_⟩⟩;have hlt:=(Be.1 hk).1;rw[hv]at h;have c:∀j,j<4->w.cell? (aD g (k*4+j))=(TI r)[j]?:=λj hj=>(h.cellAt (k*4+j) J).trans (iH rs k r hk j hj)
  exact⟨c 0 AQ,c 1 AQ,c 2 AQ,c 3 AQ⟩
theorem WA(bb bn h g len cap i:tyN)(x n:tyI)(W:tyW)(hi:i<len)
  (hb:V W bb 0 (pT h)) (hn:V W bn 0 n) (hr:V W h 0 (BG g 0 len cap)) (hc:V W g (i*4) x):
  Calls Tryz.prog 171 (#[.int .i64 i]++ #[.pointer (some (aD bb 0)),.pointer (some (aD bn 0))]) W λe w'=>e=BA (.bool (decide (n<x)))/\∃q,w'=W.drewN q:=by
 have hiz:(i:tyI)<(len:tyI):=J;have hi0:(0:tyI)<=(i:tyI):=J;clear hi;go_enter Tryz.func171,Tryz.ntmps171;go_wp2_with fail;go_quiet(fail)
 go_wp2
 go_ret;exact⟨rfl,_,rfl⟩
theorem fH(l:List SD)(B h m:tyN)(R:tyV)(many:tyI)(by':Nat->Bool×Int)(sz:tyN)(F:Int->Option Nat)(n:tyI)(w:tyW)(hl:l.length<=100000)(H:D5 w B h m R many (DM l l.length) by' sz F)(h0:0<=n)(h1:n<FT l l.length):
  Calls Tryz.prog 114 #[pT h,n] w λe w'=> ∃g,e=BA (pT g)/\w.heap.size<=g/\CellIs w' g g (Gs l n) (λ_=>sN)/\Up w w':=by
 obtain⟨r,s,hr,hs,hrs⟩:=rI l n h0 l.length h1;have hlen:(DM l l.length).length<4611686018427387904:=by have:=OW l l.length;omega
 have hmk:Gs l n=CS.new s.kind s.top:=by unfold Gs;rw[hs]
 have uF:=(OX l l.length).2;obtain⟨A,c,rfl,hrow⟩:=mS H.row;generalize DM l l.length=rs at*;obtain⟨W0,hW0⟩:∃W0,W0=(w.alloc (Y #[pT h] 100)).alloc (Y #[n] 3):=⟨_,rfl⟩;have yy:Up w W0:=by rw[hW0];exact((AV w).alloc _).alloc _
 have hsize:W0.heap.size=w.heap.size+1+1:=by rw[hW0];simp
 have ca:V W0 w 0 (pT h):=by rw[hW0];exact cell_alloc_sl _ (cell_new_sl w _ _)
 have cx:V W0 (w+1) 0 n:=by rw[hW0];have:=cell_new_sl (w.alloc (Y #[pT h] 100)) n 3;rwa[Cy]at this
 obtain⟨g,hg,_⟩:=hrow _ _ hr;subst hg;have k0:=(yy.cell (p:=aD h 0) H.blk.lt).trans H.blk.k0;have hgl:g<w.heap.size:=(H.row.lt g rfl).2;have hhl:=H.blk.lt
 have cc:∀k r,rs[k]?=some r->V W0 g (k*4) (O r.1)/\V W0 g (k*4+2) (O r.2.kind)/\V W0 g (k*4+3) (O r.2.top):=λk r hk=>by
  obtain⟨g',e,q0,_,q2,q3⟩:=hrow k r hk;injection e with e
  injection e with e
  subst e;exact⟨(yy.cell (AJ q0)).trans q0,(yy.cell (AJ q2)).trans q2,(yy.cell (AJ q3)).trans q3⟩
 have eg:∀args w,(callFunc 171 args).run Tryz.prog w= .ok (.enter 171 args) w:=enters_of Tryz.func171 Ay rfl
 have hS:=Any.sort_Search Tryz.search 171 #[pT w,pT (w+1)] rs.length (λi=>decide (n<(rs.getD i (0,Fo)).1)) W0 eg hlen
  (λm os i hi=>(WA w.heap.size (w.heap.size+1) h g rs.length c i ((rs.getD i (0,Fo)).1) n _ hi (cell_grown (by simp[hsize];omega) ca m os) (cell_grown (by simp[hsize]) cx m os) (cell_grown (by simp[hsize];omega) k0 m os)
   (cell_grown (by simp[hsize];omega) (cc i _ (by rw[gD,gG hi];rfl)).1 m os)).mono
   λ_ _ ⟨he,q,hq⟩=>⟨he,q,#[],by rw[hq,grow_empty]⟩)
  (λa b hab hb hp=>by
   have hp:=Il hp;refine Fi ?_;rcases CR a b with h|h
   .have:=jh.1 uF a b J hb h;rw[gD,gG J]at hp;rw[gD,gG hb];simp only[Option.getD_some]at hp|-;omega
   .obtain rfl:a=b:=J
    exact hp)
 have hcnt:(List.range rs.length).countP (λi=> !decide (n<(rs.getD i (0,Fo)).1))=rs.countP (λr=> !decide (n<r.1)):=by
  have e:rs=(List.range rs.length).map (λi=>rs.getD i (0,Fo)):=by
   apply mM
   .simp
   .intro i h1 h2;simp only[dC,qh];rw[gD,gG h1];rfl
  conv=>rhs;rw[e,List.countP_map]
  rfl
 rw[hcnt]at hS;change Calls Tryz.prog 170 _ _ _ at hS;obtain⟨_,q2,q3⟩:=cc _ _ hr;have hat:rs.countP (λr=> !decide (n<r.1))<rs.length:=(Be.1 hr).1;generalize rs.countP (λr=> !decide (n<r.1))=at' at*;generalize rs.length=len at*;obtain⟨r1,r2,rk,rt⟩:=r;dsimp only at q2 q3 hrs;subst hrs;rw[hmk];have HS:=I hS;have HW0:=I hW0;have OH:=I yy;have ha1:(at':tyI)<len:=J;have ha0:(0:tyI)<=at':=J;have HC:=I (λW=>qZ rk rt W);have EK:=I hsize;have kk0:=H.blk.k0;clear cc hrow hcnt hS uF hr hs hmk hlen H h1 hW0 yy eg hat hsize;go_enter Tryz.func114,Tryz.ntmps114;go_wp2_with fail;rw[<-HW0];refine HS.mono ?_;rintro e w1 ⟨rfl,q,os,hw1⟩;have hu1:Up W0 w1:=by rw[hw1];exact below_grown_sl _ _ _ _ (A9 _)
 have GR:=I (OH.trans hu1);have ca:=(hu1.cell (AJ ca)).trans ca;have k0:=(hu1.cell (AJ k0)).trans k0;have q2:=(hu1.cell (AJ q2)).trans q2;have q3:=(hu1.cell (AJ q3)).trans q3;have hSS:V w1.drew w 0 (pT h)/\V w1.drew h 0 (BG g 0 len c)/\V w1.drew g (at'*4+2) rk/\V w1.drew g (at'*4+3) rt:=⟨ca,k0,q2,q3⟩;have HSS:=I hSS;clear hw1 hu1 ca k0 q2 q3 cx HS OH HW0;go_wp2_with fail;refine Br (S:=λw'=>V w' w 0 (pT h)/\V w' h 0 (BG g 0 len c)/\V w' g (at'*4+2) rk/\V w' g (at'*4+3) rt) Ay hSS (λhS0=>?_);clear hSS;refine tq 0 hS0 ?_;refine tq 1 hS0 ?_;refine tq 2 hS0 ?_;refine tq 3 hS0 ?_;refine tq 4 hS0 ?_;refine tq 5 hS0 ?_;refine tq 6 hS0 ?_;refine tq 7 hS0 ?_;refine tq 8 hS0 ?_;refine tq 9 hS0 ?_;refine tq 10 hS0 ?_;refine tq 11 hS0 ?_;refine tq 12 hS0 ?_;refine tq 13 hS0 ?_;refine tq 14 hS0 ?_;refine tq 15 hS0 ?_;refine tq 16 hS0 ?_;refine tq 17 hS0 ?_;refine tr 18 λK hK=>?_
 go_simp;refine(HC _).mono ?_;rintro e w2 ⟨rfl,hc2,hu2⟩;have Vm:=I hc2;have Cm:=I (((AV w1).drew).trans hu2);obtain⟨s1,s2,s3,s4⟩:=HSS.out;have hS2:=And.intro ((hu2.cell (AJ s1)).trans s1) (And.intro ((hu2.cell (AJ s2)).trans s2) (And.intro ((hu2.cell (AJ s3)).trans s3) ((hu2.cell (AJ s4)).trans s4)));clear s1 s2 s3 s4 hc2 hu2;refine bk hK hS2 λhS1=>?_
 refine tq 19 hS1 ?_;refine CN Ay ?_ _
 try simp only[Act.put,DH,DI,DG,Ei,Ef,Ee]
 go_wp2
 go_ret;exact⟨_,rfl,GR.size,Vm,GR.trans Cm⟩
end
section
open Go.RowKit
def Ft (g:tyN)(ms:Nat->Value)(k:tyN):Prop:=k=g\/∃i,i<8/\(ms i).ownBlock=some k
theorem CellIs.tI(H:CellIs w g g c ms)(h:Ft g ms k):g<=k/\k<w.heap.size:=by
 rcases h with rfl|⟨i,hi,e⟩
 .exact⟨A9 _,H.lt⟩
 .exact(H.own i hi).ge k e
structure Cells (w:tyW)(u:List (Int×CS))(N B h m:tyN)(R:tyV)(F:Int->Option Nat)(MS:Int->Nat->Value)(X:Nat->Prop):Prop where
 dom:∀q,(F q).isSome=(C9 u q).isSome
 cell:∀q g c,F q=some g->C9 u q=some c->CellIs w g g c (MS q)/\Do c N
 ft:∀q g,F q=some g->∀k,Ft g (MS q) k->X k/\k≠h/\k≠m/\R.ownBlock≠some k
 two:∀q q' g g',q≠q'->F q=some g->F q'=some g'->∀k,Ft g (MS q) k->¬Ft g' (MS q') k
 yj:∀q g,F q=some g->Wf q
theorem Cells.get(H:Cells w u N B h m R F MS X)(hq:F q=some g):∃c,C9 u q=some c:=by
 have:=H.dom q;rw[hq]at this;cases hc:C9 u q with
 |none=>rw[hc]at this;cases this
 |some c=>exact⟨c,rfl⟩
theorem Cells.congr{u':List (Int×CS)}{F':Int->Option Nat}(H:Cells w u N B h m R F MS X)(hu:∀q,C9 u' q=C9 u q)(hF:∀q,F' q=F q):Cells w u' N B h m R F' MS X:=
 ⟨λq=>by rw[hu,hF];exact H.dom q,λq g c h1 h2=>H.cell q g c (by rw[<-hF];exact h1) (by rw[<-hu];exact h2),λq g h1=>H.ft q g (by rw[<-hF];exact h1),λq q' g g' hne h1 h2=>H.two q q' g g' hne (by rw[<-hF];exact h1) (by rw[<-hF];exact h2),λq g h1=>H.yj q g (by rw[<-hF];exact h1)⟩
theorem Cells.more{X':Nat->Prop}(H:Cells w u N B h m R F MS X)(hN:N<=N')(hX:∀k,X k->X' k):Cells w u N' B h m R F MS X':=
 ⟨H.dom,λq g c h1 h2=>⟨(H.cell q g c h1 h2).1,(H.cell q g c h1 h2).2.more hN⟩,λq g h1 k hk=>⟨hX k (H.ft q g h1 k hk).1,(H.ft q g h1 k hk).2⟩,H.two,H.yj⟩
theorem Cells.keep(H:Cells w u N B h m R F MS X)(hs:w.heap.size<=w'.heap.size)
  (hk:∀q g,F q=some g->∀k,Ft g (MS q) k->hSM w' w k):Cells w' u N B h m R F MS X:=
 ⟨H.dom,λq g c h1 h2=>⟨(H.cell q g c h1 h2).1.keep hs (hk q g h1 g (.inl rfl)) (λi hi k e=>hk q g h1 k (.inr ⟨i,hi,e⟩)),(H.cell q g c h1 h2).2⟩,H.ft,H.two,H.yj⟩
theorem Cells.lt(H:Cells w u N B h m R F MS X)(hq:F q=some g)(hk:Ft g (MS q) k):k<w.heap.size:=by
 obtain⟨c,hc⟩:=H.get hq;exact((H.cell q g c hq hc).1.tI hk).2
theorem Cells.up(H:Cells w u N B h m R F MS X)(up:Up w w'):Cells w' u N B h m R F MS X:=
 H.keep up.size λq g hq k hk=>up.block k (H.lt hq hk)
def Ht (MS:Int->Nat->Value)(q:tyI)(ms:Nat->Value):Int->Nat->Value:=λx=>if x=q then ms else MS x
def XG (X:Nat->Prop)(w w':tyW):Nat->Prop:=λk=>X k\/(w.heap.size<=k/\k<w'.heap.size)
theorem Cells.step(H:Cells w u N B h m R F MS X)(hN:N<=N')
  (hh:h<w.heap.size) (hm:m<w.heap.size) (hR:∀k,R.ownBlock=some k->k<w.heap.size)
  (hq:F q=some g) (hc:CellIs w' g g c' ms') (hg:Do c' N') (hf:BX w w' g (MS q) ms'):Cells w' (Eh u q c') N' B h m R F (Ht MS q ms') (XG X w w'):=by
 refine⟨λx=>?_,λx gx cx h1 h2=>?_,λx gx h1 k hk=>?_,λx x' gx gx' hne h1 h2 k hk hk'=>?_,H.yj⟩
 .by_cases e:x=q
  .rw[e,Bs,hq];rfl
  .rw[CB e];exact H.dom x
 .unfold Ht;by_cases e:x=q
  .subst e;rw[Bs,Dt]at h2;subst h2;rw[hq,Dt]at h1;subst h1;rw[AK rfl];exact⟨hc,hg⟩
  .rw[AI e];rw[CB e]at h2;obtain⟨p1,p2⟩:=H.cell x gx cx h1 h2
   have hb:∀k,Ft gx (MS x) k->hSM w' w k:=λk hk=>by
    have hn:=H.two x q gx g e h1 hq k hk;exact hf.block k (H.lt h1 hk) (λe2=>hn (.inl e2)) (λi hi e2=>hn (.inr ⟨i,hi,e2⟩))
   exact⟨p1.keep hf.size (hb gx (.inl rfl)) (λi hi k e2=>hb k (.inr ⟨i,hi,e2⟩)),p2.more hN⟩
 .unfold Ht at hk;by_cases e:x=q
  .subst e;rw[AK rfl]at hk;rw[hq,Dt]at h1;subst h1;have hlt:=(hc.tI hk).2;have hold:∀k,Ft g (MS x) k->XG X w w' k/\k≠h/\k≠m/\R.ownBlock≠some k:=λk h=>⟨.inl (H.ft x g hq k h).1,(H.ft x g hq k h).2⟩
   rcases hk with rfl|⟨i,hi,e2⟩
   .exact hold k (.inl rfl)
   .rcases hf.new i hi k e2 with⟨j,hj,e3⟩|hge
    .exact hold k (.inr ⟨j,hj,e3⟩)
    .exact⟨.inr ⟨hge,hlt⟩,J,J,λe3=>by have:=hR k e3;omega⟩
  .rw[AI e]at hk;exact⟨.inl (H.ft x gx h1 k hk).1,(H.ft x gx h1 k hk).2⟩
 .have key:∀y gy,y≠q->F y=some gy->Ft gy (MS y) k->¬Ft g ms' k:=λy gy e hy hky hk'=>by
   have hn:=H.two y q gy g e hy hq k hky;rcases hk' with rfl|⟨i,hi,e2⟩
   .exact hn (.inl rfl)
   .rcases hf.new i hi k e2 with⟨j,hj,e3⟩|hge
    .exact hn (.inr ⟨j,hj,e3⟩)
    .have:=H.lt hy hky;omega
  unfold Ht at hk hk';by_cases e:x=q
  .have e':x'≠q:=λh=>hne (by rw[e,h])
   subst e;rw[AK rfl]at hk;rw[AI e']at hk';rw[hq,Dt]at h1;subst h1;exact key x' gx' e' h2 hk' hk
  .rw[AI e]at hk;by_cases e':x'=q
   .subst e';rw[AK rfl]at hk';rw[hq,Dt]at h2;subst h2;exact key x gx e h1 hk hk'
   .rw[AI e']at hk';exact H.two x x' gx gx' hne h1 h2 k hk hk'
theorem Cells.add(H:Cells w u N B h m R F MS X)
  (hh:h<w.heap.size) (hm:m<w.heap.size) (hR:∀k,R.ownBlock=some k->k<w.heap.size)
  (up:Up w w') (hge:w.heap.size<=g) (hc:CellIs w' g g c' (λ_=>sN)) (hg:Do c' N) (hw:Wf q):Cells w' (Eh u q c') N B h m R (λx=>if x=q then some g else F x) (Ht MS q (λ_=>sN)) (XG X w w'):=by
 have hft:∀k,Ft g (λ_=>Value.slice none 0 0) k->k=g:=λk hk=>by
  rcases hk with e|⟨i,hi,e⟩
  .exact e
  .simp[Value.ownBlock]at e
 have H':=H.up up;refine⟨λx=>?_,λx gx cx h1 h2=>?_,λx gx h1 k hk=>?_,λx x' gx gx' hne h1 h2 k hk hk'=>?_,λx gx h1=>?_⟩
 rotate_right
 .by_cases e:x=q
  .rw[e];exact hw
  .rw[AI e]at h1;exact H.yj x gx h1
 .by_cases e:x=q
  .rw[e,Bs,AK rfl];rfl
  .rw[CB e,AI e];exact H.dom x
 .unfold Ht;by_cases e:x=q
  .subst e;rw[Bs,Dt]at h2;subst h2;rw[AK rfl,Dt]at h1;subst h1;rw[AK rfl];exact⟨hc,hg⟩
  .rw[AI e];rw[CB e]at h2;rw[AI e]at h1;exact H'.cell x gx cx h1 h2
 .unfold Ht at hk;by_cases e:x=q
  .subst e;rw[AK rfl]at hk;rw[AK rfl,Dt]at h1;subst h1;have:=hft k hk;subst this;exact⟨.inr ⟨hge,hc.lt⟩,J,J,λe3=>by have:=hR k e3;omega⟩
  .rw[AI e]at hk h1;exact⟨.inl (H.ft x gx h1 k hk).1,(H.ft x gx h1 k hk).2⟩
 .unfold Ht at hk hk';by_cases e:x=q
  .have e':x'≠q:=λh=>hne (by rw[e,h])
   subst e;rw[AK rfl]at hk h1;rw[AI e']at hk' h2;rw[Dt]at h1;subst h1;have:=hft k hk;have:=H.lt h2 hk';omega
  .rw[AI e]at hk h1;by_cases e':x'=q
   .subst e';rw[AK rfl]at hk' h2;rw[Dt]at h2;subst h2;have:=hft k hk';have:=H.lt h1 hk;omega
   .rw[AI e']at hk' h2;exact H.two x x' gx gx' hne h1 h2 k hk hk'
structure Fit (l:List SD):Prop where
 all:F5 l l.length=true
 few:Cl l l.length<=32768
 len:l.length<=100000
def ED (w:tyW)(B h:tyN)(l:List SD)(s:BS)(N:tyN)(X:Nat->Prop):Prop:=
 ∃m R sz F MS,D5 w B h m R (Cl l l.length) (DM l l.length) s.by' sz F/\Cells w s.u N B h m R F MS X/\(X h/\X m/\∀k,R.ownBlock=some k->X k)/\(∀k,X k->B<=k/\k<w.heap.size)/\sz<=N/\s.Good
theorem ED.keep(H:ED w B h l s N X)(hs:w.heap.size<=w'.heap.size)(hk:∀k,X k->hSM w' w k):ED w' B h l s N X:=by
 obtain⟨m,R,sz,F,MS,h1,h2,h3,h4,h5,h6⟩:=H;exact⟨m,R,sz,F,MS,h1.keep (hk _ h3.1) (hk _ h3.2.1) (λk e=>hk k (h3.2.2 k e)),h2.keep hs (λq g hq k hk'=>hk k (h2.ft q g hq k hk').1),h3,λk hk'=>⟨(h4 k hk').1,B5 (h4 k hk').2 hs⟩,h5,h6⟩
theorem ED.up(H:ED w B h l s N X)(u:Up w w'):ED w' B h l s N X:=
 H.keep u.size λk hk=>by
  obtain⟨m,R,sz,F,MS,h1,h2,h3,h4,h5,h6⟩:=H;exact u.block k (h4 k hk).2
theorem ED.lt(H:ED w B h l s N X):∀k,X k->B<=k/\k<w.heap.size:=by
 obtain⟨m,R,sz,F,MS,h1,h2,h3,h4,h5,h6⟩:=H;exact h4
theorem ED.more{X':Nat->Prop}(H:ED w B h l s N X)(hN:N<=N')(hX:∀k,X k->X' k)(hX':∀k,X' k->B<=k/\k<w.heap.size):ED w B h l s N' X':=by
 obtain⟨m,R,sz,F,MS,h1,h2,h3,h4,h5,h6⟩:=H;exact⟨m,R,sz,F,MS,h1,h2.more hN hX,⟨hX _ h3.1,hX _ h3.2.1,λk e=>hX _ (h3.2.2 k e)⟩,hX',DB h5 hN,h6⟩
structure Fr (w w':tyW)(X:Nat->Prop):Prop where
 os:w'.os=w.os
 tape:w'.tape=w.tape
 output:w'.output=w.output
 size:w.heap.size<=w'.heap.size
 block:∀k,k<w.heap.size->¬X k->hSM w' w k
theorem Fr.Bp(u:Up w w'):Fr w w' X:=⟨u.os,u.tape,u.output,u.size,λk hk _=>u.block k hk⟩
theorem Fr.trans{X1:Nat->Prop}(f:Fr w w1 X)(f2:Fr w1 w2 X1)(hX:∀k,k<w.heap.size->X1 k->X k):Fr w w2 X:=
 ⟨f2.os.trans f.os,f2.tape.trans f.tape,f2.output.trans f.output,DB f.size f2.size,λk hk hn=>(f2.block k (B5 hk f.size) (λh=>hn (hX k hk h))).trans (f.block k hk hn)⟩
theorem Fr.same(f:Fr w w1 X)(f2:Fr w1 w2 X):Fr w w2 X:=f.trans f2 λk _ h=>h
theorem XG.ge(h:∀k,X k->B<=k/\k<w.heap.size)(hs:w.heap.size<=w'.heap.size)(hB:B<=w.heap.size):∀k,XG X w w' k->B<=k/\k<w'.heap.size:=λk hk=>by
 rcases hk with hk|hk
 .exact⟨(h k hk).1,B5 (h k hk).2 hs⟩
 .exact⟨J,hk.2⟩
open Go.RowKit
def st2 (w:tyW)(h o:tyN)(a b:tyV):World:=(w.setCell (aD h o) a).setCell (aD h (o+1)) b
theorem Hb(w:tyW)(h o:tyN)(a b:tyV):∀k,k≠h->hSM (st2 w h o a b) w k:=λk hk=>
 (BF (w.setCell (aD h o) a) ⟨h,o+1,none⟩ b k hk).trans (BF w ⟨h,o,none⟩ a k hk)
theorem Ri(w:tyW)(h o:tyN)(a b:tyV):(st2 w h o a b).heap.size=w.heap.size:=by unfold st2;simp
theorem kK(w:tyW)(h o:tyN)(a b:tyV)(X:Nat->Prop)(hX:X h):Fr w (st2 w h o a b) X:=⟨rfl,rfl,rfl,by rw[Ri];exact A9 _,λk _ hn=>Hb w h o a b k (λe=>hn (by rw[e];exact hX))⟩
theorem Hj.Xf(H:Hj w h R many m by')(t:tyN)(ht:t<8)(p:Bool×Int):
  Hj (st2 w h (3+t*2) (.bool p.1) p.2) h R many m (λi=>if i=t then p else by' i):=by
 unfold st2
 have ho:∀j,j≠3+t*2->j≠3+t*2+1->((w.setCell (aD h (3+t*2)) (.bool p.1)).setCell (aD h (3+t*2+1)) p.2).cell? (aD h j)=w.cell? (aD h j):=λj h1 h2=>
  (Ck _ _ _ _ (by simp<;>omega)).trans (Ck _ _ _ _ (by simp<;>omega))
 refine⟨(ho 0 J J).trans H.k0,(ho 1 J J).trans H.k1,(ho 2 J J).trans H.k2,λi hi=>?_,λi hi=>?_,λj=>by simpa[go_sem]using H.fz j⟩
 .by_cases e:i=t
  .subst e;rw[AK rfl];exact(Ck _ _ _ _ (by simp<;>omega)).trans (Ek _ _ _ (H.on i hi))
  .rw[AI e];exact(ho _ J J).trans (H.on i hi)
 .by_cases e:i=t
  .subst e;rw[AK rfl];exact Ek _ _ _ ((Ck _ _ _ _ (by simp<;>omega)).trans (H.at' i hi))
  .rw[AI e];exact(ho _ J J).trans (H.at' i hi)
theorem D5.Xf(H:D5 w B h m R many rs by' sz F)(t:tyN)(ht:t<8)(p:Bool×Int):
  D5 (st2 w h (3+t*2) (.bool p.1) p.2) B h m R many rs (λi=>if i=t then p else by' i) sz F:=
 ⟨H.blk.Xf t ht p,AS H.row λk e=>Hb _ _ _ _ _ k (λe2=>H.rh (by rw[e,e2])),H.map.up (Hb _ _ _ _ _ m (λe=>H.hm e.symm)),H.hm,H.rh,H.rm,H.yq,H.gem⟩
theorem Cells.st2(H:Cells w u N B h m R F MS X)(o:tyN)(a b:tyV):Cells (st2 w h o a b) u N B h m R F MS X:=
 H.keep (by rw[Ri];exact A9 _) λq g hq k hk=>Hb _ _ _ _ _ k (H.ft q g hq k hk).2.1
theorem D5.store(H:D5 w B h m R many rs by' sz F)(hn:sz<maxLen)(hq:Wf q)(g:tyN):
  ∃W',(Instr.mapUpdate 144 (.map (some m)) q (pT g)).run Tryz.prog w= .ok () W'/\D5 W' B h m R many rs by' (sz+1) (λx=>if x=q then some g else F x)/\w.grownBy W' (some m):=by
 obtain⟨W',h1,h2,h3⟩:=H.map.store hn hq g;have hk:∀k,k<w.heap.size->k≠m->hSM W' w k:=λk hk hne=>h3.block k hk (λe=>hne (by injection e))
 exact⟨W',h1,⟨H.blk.same (hk h H.blk.lt H.hm),AS H.row (λk e=>hk k (H.row.lt k e).2 (λe2=>H.rm (by rw[e,e2]))),h2,H.hm,H.rh,H.rm,H.yq,H.gem⟩,h3⟩
theorem jf(h:w.grownBy w' (some m))(hX:X m):Fr w w' X:=⟨h.os,h.tape,h.output,h.size,λk hk hn=>h.block k hk (λe=>hn (by injection e with e;rw[e];exact hX))⟩
theorem Cells.grown(H:Cells w u N B h m R F MS X)(hg:w.grownBy w' (some m)):Cells w' u N B h m R F MS X:=
 H.keep hg.size λq g hq k hk=>hg.block k (H.lt hq hk) (λe=>by injection e with e;exact(H.ft q g hq k hk).2.2.1 e)
def vB (l:List SD)(w:tyW)(e:Ending)(w':tyW):Prop:=
 if(countP l).2≠0 then e=BA (.tuple #[.pointer none,O (countP l).2])/\Up w w'
 else∃h X,e=BA (.tuple #[pT h,()])/\ED w' w.heap.size h l bs0 0 X/\Up w w'
theorem vD(hl:l.length<=100000)(h:(countP l).2=0):Fit l/\(countP l).1=Cl l l.length:=by
 unfold countP at h|-;split at h
 .rename_i ha;split at h
  .cases h
  .rename_i hc;rw[AK ha,AI hc];exact⟨⟨ha,J,hl⟩,rfl⟩
 .cases h
theorem mH(l:List SD)(A:tyA)(c:tyN)(w:tyW)(hl:l.length<=100000)(hr:Dx w A l):
  Calls Tryz.prog 50 #[AR A l.length c] w (vB l w):=by
 refine(mQ l A c w hl hr).mono λe w' hp=>?_
 unfold Lp at hp;unfold vB;by_cases h0:(countP l).2≠0
 .rw[AK h0]at hp|-;exact hp
 .rw[AI h0]at hp|-;obtain⟨hf,h1⟩:=vD hl J;obtain⟨h,m,R,he,hb,hu⟩:=hp;rw[h1]at hb;refine⟨h,λk=>k=h\/k=m\/R.ownBlock=some k,he,⟨m,R,0,λ_=>none,λ_ _=>sN,hb,⟨λq=>rfl,λq g c hq=>(by cases hq),λq g hq=>(by cases hq),λq q' g g' _ hq=>(by cases hq),λq g hq=>(by cases hq)⟩,⟨.inl rfl,.inr (.inl rfl),λk e=> .inr (.inr e)⟩,λk hk=>?_,A9 _,kg⟩,hu⟩;rcases hk with rfl|rfl|e
  .exact⟨hb.yq,hb.blk.lt⟩
  .exact⟨hb.gem,hb.map.isLt⟩
  .exact hb.row.lt k e
theorem gH(l:List SD)(B h N:tyN)(s:BS)(X:Nat->Prop)(t:tyI)(w:tyW)(ht0: -9223372036854775808<=t)(ht1:t<=9223372036854775807)(H:ED w B h l s N X):
  Calls Tryz.prog 80 #[pT h,t] w λe w'=>e=BA (.tuple #[O (s.busy t).1,.bool (s.busy t).2])/\Up w w':=by
 obtain⟨m,R,sz,F,MS,h1,h2,h3,h4,h5,h6⟩:=H;exact Tl h R _ m s t w ht0 ht1 h1.blk
theorem BX.AAG(f:BX w w' g ms ms')(hX:∀k,Ft g ms k->X k):Fr w w' X:=
 ⟨f.os,f.tape,f.output,f.size,λk hk hn=>f.block k hk (λe=>hn (hX k (.inl e))) (λi hi e=>hn (hX k (.inr ⟨i,hi,e⟩)))⟩
theorem kU(l:List SD)(B h N:tyN)(s:BS)(X:Nat->Prop)(t d:tyI)(w:tyW)(ht0: -9223372036854775808<=t)(ht1:t<=9223372036854775807)(H:ED w B h l s N X)(hN:N<=100000)(mk:Int->CS):
  Calls Tryz.prog 55 #[pT h,t,d] w λe w'=>e=BA (.tuple #[O (s.Bm mk t d).1,O (s.Bm mk t d).2.1])/\ED w' B h l (s.Bm mk t d).2.2 N (XG X w w')/\Fr w w' X:=by
 have da:=I (gH l B h N s X t w ht0 ht1 H)
 have HB:=I (show B<=w.heap.size from by
  obtain⟨m,R,sz,F,MS,h1,h2,h3,h4,h5,h6⟩:=H
  have:=h4 _ h3.1;omega)
 by_cases hbz:(s.busy t).2=false
 .have e0:s.Bm mk t d=(0,7,s):=by unfold BS.Bm;rw[AK hbz]
  rw[e0];rw[hbz]at da;have HH:=I H;generalize(s.busy t).1=q at*;clear e0 hbz H;go_enter Tryz.func55,Tryz.ntmps55;go_wp2_with fail;refine da.mono ?_;rintro e w2 ⟨rfl,hu2⟩;have Cm:=I hu2;clear hu2
  go_wp2
  go_ret2;exact⟨rfl,(HH.up Cm).more (A9 _) (λk hk=> .inl hk) (XG.ge HH.lt Cm.size HB),Fr.Bp Cm⟩
 .have hbt:(s.busy t).2=true:=by cases hq:(s.busy t).2<;>simp_all
  obtain⟨p0,p1,p2,p3⟩:=cE hbt;obtain⟨tn,rfl⟩:∃tn:Nat,t=tn:=⟨t.toNat,J⟩;have htn:tn<8:=J;obtain⟨m,R,sz,F,MS,h1,h2,h3,h4,h5,h6⟩:=H;rw[Gl]at p2 p3;have hgood:=h6 tn htn p2;rw[<-p3]at hgood;rw[hbt]at da;have hby:s.by' tn=(true,(s.busy (tn:tyI)).1):=ey p2 p3.symm;obtain⟨q,hq⟩:=gX ((s.busy (tn:tyI)).1);rw[hq]at da hgood hby;have hd:=h2.dom q;rw[hgood]at hd;obtain⟨g,hg⟩:=Option.isSome_iff_exists.1 hd;obtain⟨c,hc⟩:=h2.get hg;obtain⟨hci,hcg⟩:=h2.cell q g c hg hc
  have e0:s.Bm mk tn d=((c.Bm tn d).1,(c.Bm tn d).2.1,{u:=Eh s.u q (c.Bm tn d).2.2,by':=λi=>if i=tn then(false,0)else s.by' i}):=by
   unfold BS.Bm;rw[AI hbz,hq,hc];rfl
  rw[e0];have KH:=I (show BS.Good {u:=Eh s.u q (c.Bm tn d).2.2,by':=λi=>if i=tn then(false,0)else s.by' i}from by have:=BS.Good.Bm h6 mk tn d;rw[e0]at this;exact this);have HX:=I h3;have yz:=I h4;have EK:=I h5;have HO:=I h1;have HC:=I h2;have HG:=I hg;have HCU:=I hc;have HCG:=I (hcg.Bm tn d);have AFX:=I hcg;have y6:=I (h2.yj q g hg);have hi8:(tn:tyI)<8:=J;have hi0:(0:tyI)<=(tn:tyI):=J;clear hci hcg hc hd hgood e0 h1 h2 h3 h4 h5 h6 hq hg p0 p1 p2 p3 hbz hbt;generalize s.busy (tn:tyI)=bz at*;go_enter Tryz.func55,Tryz.ntmps55;go_wp2_with fail;refine da.mono ?_;rintro e w2 ⟨rfl,hu2⟩;have Cm:=I hu2;have Jd:=I (HO.up hu2);have MJ:=I (Jd.Xf tn htn (false,0));have Vl:=I ((HC.up hu2).st2 (3+tn*2) false ());have nH:=I (kK w2 h (3+tn*2) false () X HX.1);have b0:=Jd.blk.on tn htn;have b1:=Jd.blk.at' tn htn;have b2:=MJ.blk.k2;have fz:=Jd.blk.fz;have hlk:=MJ.map.look y6;rw[HG]at hlk;unfold Vc at hlk;obtain⟨w3,hw3⟩:=gX (st2 w2 h (3+tn*2) false ());dsimp only at hlk b2;rw[hw3]at hlk b2 Vl nH;dsimp only at MJ;rw[hw3]at MJ;unfold st2 at hw3;have HW3:=I hw3;have HEN:=I (qG g g N c (MS q) tn d w3 (Vl.cell q g c HG HCU).1 AFX hN);clear hu2;go_wp2_with fail;refine HEN.mono ?_;rintro e w4 ⟨rfl,ms',hc4,ij⟩;have HT:=I (Vl.step (A9 N) MJ.blk.lt MJ.map.isLt (λk e=>(MJ.row.lt k e).2) HG hc4 HCG ij)
  have y7:=I (MJ.keep (ij.block h MJ.blk.lt (λe=>(Vl.ft q g HG g (.inl rfl)).2.1 e.symm) (λi hi e=>(Vl.ft q g HG h (.inr ⟨i,hi,e⟩)).2.1 rfl))
   (ij.block m MJ.map.isLt (λe=>(Vl.ft q g HG g (.inl rfl)).2.2.1 e.symm) (λi hi e=>(Vl.ft q g HG m (.inr ⟨i,hi,e⟩)).2.2.1 rfl))
   (λk e=>ij.block k (MJ.row.lt k e).2 (λe2=>(Vl.ft q g HG g (.inl rfl)).2.2.2 (by rw[e,e2])) (λi hi e2=>(Vl.ft q g HG k (.inr ⟨i,hi,e2⟩)).2.2.2 e)))
  have rU:=I (nH.same (ij.AAG (X:=X) (λk hk=>(Vl.ft q g HG k hk).1)));have HFF:=I ((Fr.Bp (X:=X) Cm).same rU);have HZ:=I (show w3.heap.size=w2.heap.size from by rw[<-HW3];simp);clear hc4 ij hw3 b0 b1 b2 fz hlk
  go_wp2
  go_ret2;refine⟨rfl,⟨m,R,sz,F,Ht MS q ms',y7,(HT.more (A9 _) (X':=XG X w w4) (λk hk=>?_)),⟨.inl HX.1,.inl HX.2.1,λk e=> .inl (HX.2.2 k e)⟩,XG.ge yz HFF.size HB,EK,KH⟩,HFF⟩;rcases hk with hk|hk
  .exact .inl hk
  .have:=Cm.out.size;have:=HZ.out;exact .inr ⟨J,hk.2⟩
open Go.RowKit
theorem YW(c:CS)(t k v:tyI)(h:(c.begin t k v).1=0):0<=t/\t<8:=by
 unfold CS.begin at h;split at h
 .simp at h
 .omega
theorem Qh(c:CS)(t k v:tyI)(h:(c.begin t k v).1≠0):(c.begin t k v).2=c:=by
 unfold CS.begin at h|-;split at h
 .rename_i hc;rw[AK hc]
 .rename_i hc;rw[AI hc];split at h
  .rename_i h2;rw[AK h2]
  .split at h<;>exact absurd rfl h
theorem lq(h:C9 u q=some c):∀x,C9 (Eh u q c) x=C9 u x:=λx=>by
 by_cases e:x=q
 .rw[e,Bs,h]
 .rw[CB e]
theorem kx{d:CS}:∀x,C9 (Eh (Eh u q c) q d) x=C9 (Eh u q d) x:=λx=>by
 by_cases e:x=q
 .rw[e,Bs,Bs]
 .rw[CB e,CB e,CB e]
structure Iz (w w3:tyW)(B h m:tyN)(R:tyV)(l:List SD)(s:BS)(N sz g:tyN)(F F1:Int->Option Nat)(Vn:Int->Nat->Value)(u1:List (Int×CS))(X X3:Nat->Prop)(cl:tyI)(c:CS):Prop where
 o:D5 w3 B h m R (Cl l l.length) (DM l l.length) s.by' sz F
 cs:Cells w3 u1 N B h m R F1 Vn X3
 at':F1 cl=some g
 u:C9 u1 cl=some c
 put:∀c' x,C9 (Eh u1 cl c') x=C9 (Eh s.u cl c') x
 f:∀x,F1 x=if x=cl then some g else F x
 up:Up w w3
 x3:∀k,X3 k->XG X w w3 k
 x:∀k,X k->X3 k
 err:∀w4 ms',BX w3 w4 g (Vn cl) ms'->CellIs w4 g g c ms'->∃MS2,Cells w4 s.u N B h m R F MS2 (XG X w w4)
theorem Iz.fr(H:Iz w w3 B h m R l s N sz g F F1 Vn u1 X X3 cl c) (hf:BX w3 w4 g (Vn cl) ms'):Fr w w4 X:=
 (Fr.Bp (X:=X) H.up).trans (hf.AAG (X:=X3) (λk hk=>(H.cs.ft cl g H.at' k hk).1)) (λk hk h=>by
  rcases H.x3 k h with h|h
  .exact h
  .omega)
theorem Iz.o4(H:Iz w w3 B h m R l s N sz g F F1 Vn u1 X X3 cl c) (hf:BX w3 w4 g (Vn cl) ms'):D5 w4 B h m R (Cl l l.length) (DM l l.length) s.by' sz F:=
 H.o.keep (hf.block h H.o.blk.lt (λe=>(H.cs.ft cl g H.at' g (.inl rfl)).2.1 e.symm) (λi hi e=>(H.cs.ft cl g H.at' h (.inr ⟨i,hi,e⟩)).2.1 rfl))
  (hf.block m H.o.map.isLt (λe=>(H.cs.ft cl g H.at' g (.inl rfl)).2.2.1 e.symm) (λi hi e=>(H.cs.ft cl g H.at' m (.inr ⟨i,hi,e⟩)).2.2.1 rfl))
  (λk e=>hf.block k (H.o.row.lt k e).2 (λe2=>(H.cs.ft cl g H.at' g (.inl rfl)).2.2.2 (by rw[e,e2])) (λi hi e2=>(H.cs.ft cl g H.at' k (.inr ⟨i,hi,e2⟩)).2.2.2 e))
theorem aa(HO:D5 w B h m R (Cl l l.length) (DM l l.length) s.by' sz F) (HC:Cells w s.u N B h m R F MS X) (up:Up w w3) (hg:F cl=some g) (hc:C9 s.u cl=some c):
  Iz w w3 B h m R l s N sz g F F MS s.u X X cl c:=by
 refine⟨HO.up up,HC.up up,hg,hc,λ_ _=>rfl,λx=>?_,up,λk hk=> .inl hk,λk hk=>hk,λw4 ms' hf hc4=>?_⟩
 .split
  .rename_i e;rw[e,hg]
  .rfl
 .have h3:=HC.up up;have hlt:=λk (e:R.ownBlock=some k)=>((HO.up up).row.lt k e).2
  have h4:=h3.step (A9 N) (HO.up up).blk.lt (HO.up up).map.isLt hlt hg hc4 (h3.cell cl g c hg hc).2 hf;refine⟨_,(h4.congr (u':=s.u) (F':=F) (λq=>(lq hc q).symm) (λ_=>rfl)).more (A9 _) λk hk=>?_⟩;rcases hk with hk|hk
  .exact .inl hk
  .exact .inr ⟨DB up.size hk.1,hk.2⟩
theorem Z2(HO:D5 w B h m R (Cl l l.length) (DM l l.length) s.by' sz F) (HC:Cells w s.u N B h m R F MS X) (up:Up w w2) (y8:Up w2 w3) (hg:F cl=none) (hge:w2.heap.size<=g) (hc:CellIs w3 g g c (λ_=>sN)) (hgd:Do c N) (hw:Wf cl):
  Iz w w3 B h m R l s N sz g F (λx=>if x=cl then some g else F x) (Ht MS cl (λ_=>sN)) (Eh s.u cl c) X (XG X w2 w3) cl c:=by
 have hlt:=λk (e:R.ownBlock=some k)=>((HO.up up).row.lt k e).2
 have h3:=(HC.up up).add (HO.up up).blk.lt (HO.up up).map.isLt hlt y8 hge hc hgd hw;refine⟨HO.up (up.trans y8),h3,AK rfl,Bs _ _ _,λc' x=>kx x,λx=>rfl,up.trans y8,λk hk=>?_,λk hk=> .inl hk,λw4 ms' hf hc4=>⟨MS,?_⟩⟩
 .rcases hk with hk|hk
  .exact .inl hk
  .exact .inr ⟨DB up.size hk.1,hk.2⟩
 .have hms:Ht MS cl (λ_=>Value.slice none 0 0) cl=λ_=>Value.slice none 0 0:=by unfold Ht;rw[AK rfl]
  rw[hms]at hf;have hs:w.heap.size<=w4.heap.size:=DB (up.trans y8).size hf.size;refine(HC.keep hs λq gq hq k hk=>?_).more (A9 _) (λk hk=> .inl hk);have hkl:=HC.lt hq hk;have hu:=up.size;exact(hf.block k (B5 hkl (up.trans y8).size) J (λi hi e=>by simp[Value.ownBlock]at e)).trans ((up.trans y8).block k hkl)
theorem Iz.fail(H:Iz w w3 B h m R l s N sz g F F1 Vn u1 X X3 cl c) (hf:BX w3 w4 g (Vn cl) ms') (hc4:CellIs w4 g g c ms') (hX:X h/\X m/\∀k,R.ownBlock=some k->X k) (hXL:∀k,X k->B<=k/\k<w.heap.size) (hB:B<=w.heap.size) (hsz:sz<=N) (hgd:s.Good):
  ED w4 B h l s (N+9) (XG X w w4)/\Fr w w4 X:=by
 have hfr:=H.fr hf;obtain⟨MS2,h2⟩:=H.err w4 ms' hf hc4;exact⟨⟨m,R,sz,F,MS2,H.o4 hf,h2.more J (λk hk=>hk),⟨.inl hX.1,.inl hX.2.1,λk e=> .inl (hX.2.2 k e)⟩,XG.ge hXL hfr.size hB,J,hgd⟩,hfr⟩
theorem Iz.done{w5 w6:tyW}{tn:tyN}
  (H:Iz w w3 B h m R l s N sz g F F1 Vn u1 X X3 cl c) (hf:BX w3 w4 g (Vn cl) ms') (hc4:CellIs w4 g g c' ms') (hgc:Do c' (N+9)) (hX:X h/\X m/\∀k,R.ownBlock=some k->X k) (hXL:∀k,X k->B<=k/\k<w.heap.size) (hB:B<=w.heap.size) (hsz:sz<=N) (htn:tn<8)
  (u4:Up w4 w5) (hg6:w5.grownBy w6 (some m)) (y9:D5 w6 B h m R (Cl l l.length) (DM l l.length) s.by' (sz+1) (λx=>if x=cl then some g else F x)) (hgd:BS.Good {u:=Eh s.u cl c',by':=λi=>if i=tn then(true,cl)else s.by' i}):
  ∀w7,Up w6 w7->ED (st2 w7 h (3+tn*2) true cl) B h l {u:=Eh s.u cl c',by':=λi=>if i=tn then(true,cl)else s.by' i} (N+9) (XG X w (st2 w7 h (3+tn*2) true cl))/\Fr w (st2 w7 h (3+tn*2) true cl) X:=by
 intro w7 u7;have hlt:=λk (e:R.ownBlock=some k)=>(H.o.row.lt k e).2
 have h4:=H.cs.step (N':=N+9) J H.o.blk.lt H.o.map.isLt hlt H.at' hc4 hgc hf;have h6:=((h4.up u4).grown hg6).up u7
 have hfr:Fr w (st2 w7 h (3+tn*2) true cl) X:=
  ((((H.fr hf).same (Fr.Bp u4)).same (jf hg6 hX.2.1)).same (Fr.Bp u7)).same (kK _ _ _ _ _ X hX.1)
 have hs7:(st2 w7 h (3+tn*2) true cl).heap.size=w7.heap.size:=Ri _ _ _ _ _;refine⟨⟨m,R,sz+1,_,_,(y9.up u7).Xf tn htn (true,cl),((h6.st2 (3+tn*2) true cl).congr (u':=Eh s.u cl c') (F':=λx=>if x=cl then some g else F x) (λq=>(H.put c' q).symm) (λq=>(H.f q).symm)).more (A9 _) (λk hk=>?_),⟨.inl hX.1,.inl hX.2.1,λk e=> .inl (hX.2.2 k e)⟩,XG.ge hXL hfr.size hB,J,hgd⟩,hfr⟩;have hu3:=H.up.size;rcases hk with hk|hk
 .rcases H.x3 k hk with hk|hk
  .exact .inl hk
  .have h1:=hf.size;have h2:=u4.size;have h3:=hg6.size;have h5:=u7.size;exact .inr ⟨hk.1,J⟩
 .have h2:=u4.size;have h3:=hg6.size;have h5:=u7.size;exact .inr ⟨J,J⟩
end
end Go.Proofs.YtpodgcpkccpnfaaGreat
