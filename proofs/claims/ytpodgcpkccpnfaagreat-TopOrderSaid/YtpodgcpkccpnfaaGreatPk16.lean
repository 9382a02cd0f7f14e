import Derived.Test.YtpodgcpkccpnfaaGreatPk15
set_option linter.unusedVariables false
set_option linter.unusedSimpArgs false
set_option maxRecDepth 20000
set_option maxHeartbeats 40000000
namespace Go.Proofs.YtpodgcpkccpnfaaGreat
section
open Go.RowKit
theorem gP(w:tyW):Calls Tryz.prog 8 #[] w λe w'=>e=BA true/\Up w w':=by
 have h0:=Ah w (Y #[O 1,O 2,O 1,O 1,(),(),(),()] 46);have h0:=((Up.alloc (Up.alloc (Up.alloc (Up.alloc (AV _) (Y #[O 2,(),(),O 1,(),()] 65)) (Y #[BG (w+1) 0 2 2] 66)) (Y #[(),O 3,false] 68)) (Y #[BG w 0 1 1,BG (w+1+1) 0 1 1,BG (w+1+1+1) 0 1 1,sN] 27)).block _ (gE h0).1).trans h0;have h1:=Ah (w.alloc (Y #[O 1,O 2,O 1,O 1,(),(),(),()] 46)) (Y #[O 2,(),(),O 1,(),()] 65);have h1:=((Up.alloc (Up.alloc (Up.alloc (AV _) (Y #[BG (w+1) 0 2 2] 66)) (Y #[(),O 3,false] 68)) (Y #[BG w 0 1 1,BG (w+1+1) 0 1 1,BG (w+1+1+1) 0 1 1,sN] 27)).block _ (gE h1).1).trans h1;have h2:=Ah ((w.alloc (Y #[O 1,O 2,O 1,O 1,(),(),(),()] 46)).alloc (Y #[O 2,(),(),O 1,(),()] 65)) (Y #[BG (w+1) 0 2 2] 66);have h2:=((Up.alloc (Up.alloc (AV _) (Y #[(),O 3,false] 68)) (Y #[BG w 0 1 1,BG (w+1+1) 0 1 1,BG (w+1+1+1) 0 1 1,sN] 27)).block _ (gE h2).1).trans h2;have h3:=Ah (((w.alloc (Y #[O 1,O 2,O 1,O 1,(),(),(),()] 46)).alloc (Y #[O 2,(),(),O 1,(),()] 65)).alloc (Y #[BG (w+1) 0 2 2] 66)) (Y #[(),O 3,false] 68);have h3:=((Up.alloc (AV _) (Y #[BG w 0 1 1,BG (w+1+1) 0 1 1,BG (w+1+1+1) 0 1 1,sN] 27)).block _ (gE h3).1).trans h3;have h4:=Ah ((((w.alloc (Y #[O 1,O 2,O 1,O 1,(),(),(),()] 46)).alloc (Y #[O 2,(),(),O 1,(),()] 65)).alloc (Y #[BG (w+1) 0 2 2] 66)).alloc (Y #[(),O 3,false] 68)) (Y #[BG w 0 1 1,BG (w+1+1) 0 1 1,BG (w+1+1+1) 0 1 1,sN] 27);simp only[Cy]at h1 h2 h3 h4;have hu:Up w (((((w.alloc (Y #[O 1,O 2,O 1,O 1,(),(),(),()] 46)).alloc (Y #[O 2,(),(),O 1,(),()] 65)).alloc (Y #[BG (w+1) 0 2 2] 66)).alloc (Y #[(),O 3,false] 68)).alloc (Y #[BG w 0 1 1,BG (w+1+1) 0 1 1,BG (w+1+1+1) 0 1 1,sN] 27)):=(Up.alloc (Up.alloc (Up.alloc (Up.alloc (Up.alloc (AV w) (Y #[O 1,O 2,O 1,O 1,(),(),(),()] 46)) (Y #[O 2,(),(),O 1,(),()] 65)) (Y #[BG (w+1) 0 2 2] 66)) (Y #[(),O 3,false] 68)) (Y #[BG w 0 1 1,BG (w+1+1) 0 1 1,BG (w+1+1+1) 0 1 1,sN] 27));obtain⟨W0,hW0⟩:=gX (((((w.alloc (Y #[O 1,O 2,O 1,O 1,(),(),(),()] 46)).alloc (Y #[O 2,(),(),O 1,(),()] 65)).alloc (Y #[BG (w+1) 0 2 2] 66)).alloc (Y #[(),O 3,false] 68)).alloc (Y #[BG w 0 1 1,BG (w+1+1) 0 1 1,BG (w+1+1+1) 0 1 1,sN] 27));rw[hW0]at h0 h1 h2 h3 h4 hu
 have hs:EF W0 CW ⟨some ⟨w.heap.size,0,none⟩,1,some ⟨w.heap.size+1+1,0,none⟩,1,some ⟨w.heap.size+1+1+1,0,none⟩,1,none,0⟩:=by
  refine⟨λi hi=>?_,λi hi=>?_,λi hi=>?_,λi hi=>(by cases hi),λ_=>rfl,A9 _,DV _⟩
  .match i,hi with
   |0,_=>exact⟨_,0,rfl,⟨AL h0 0,AL h0 1,AL h0 2,AL h0 3⟩,AL h0 4,AL h0 5,AL h0 6,AL h0 7⟩
  .match i,hi with
   |0,_=>
    refine⟨_,0,some ⟨w.heap.size+1,0,none⟩,2,rfl,AL h2 0,λj hj=>?_,AQ,AQ,AQ,λe=>by cases e⟩
    match j,hj with
    |0,_=>exact⟨_,0,rfl,AL h1 0,AL h1 1,AL h1 2⟩
    |1,_=>exact⟨_,0,rfl,AL h1 3,AL h1 4,AL h1 5⟩
  .match i,hi with
   |0,_=>exact⟨_,0,rfl,AL h3 0,AL h3 1,AL h3 2⟩
 have HS:=I hs;have TB:=I (λ(W:tyW) (u:Up W0 W)=>gv W _ (hs.up u));have sg:=I (λ(W:tyW) (u:Up W0 W)=>li WT W (hs.up u))
 have HK:=I (λ(W:tyW) (u:Up W0 W)=>show V W (w+1+1+1+1) 0 (BG w 0 1 1)/\V W (w+1+1+1+1) 1 (BG (w+1+1) 0 1 1)/\V W (w+1+1+1+1) 2 (BG (w+1+1+1) 0 1 1)/\V W (w+1+1+1+1) 3 sN from by
  have h:=(u.block _ (gE h4).1).trans h4
  exact⟨AL h 0,AL h 1,AL h 2,AL h 3⟩)
 have HU:=I hu;have HW0:=I hW0;clear h0 h1 h2 h3 h4 hu hs hW0
 try clear h0
 try clear h1
 try clear h2
 try clear h3
 try clear h0
 try clear h1
 try clear h2
 try clear h3
 go_enter Tryz.func8,Tryz.ntmps8;go_upto_region 2 with fail;rw[HW0];obtain⟨k0,k1,k2,k3⟩:=HK _ (AV _);clear HW0;go_wp2_with fail;refine(TB _ (AV _)).mono ?_;rintro e w1 ⟨b,cap,A2,n2,c2,A3,n3,c3,A4,n4,c4,rfl,⟨r1,r6⟩,hu1⟩;clear k0 k1 k2 k3;have hb1:=Ah w1 (Y #[BG b 0 7 cap,O 3,AR A2 n2 c2,AR A3 n3 c3,AR A4 n4 c4] 32);have hu2:=(AV w1).alloc (Y #[BG b 0 7 cap,O 3,AR A2 n2 c2,AR A3 n3 c3,AR A4 n4 c4] 32);obtain⟨W1,hW1⟩:=gX (w1.alloc (Y #[BG b 0 7 cap,O 3,AR A2 n2 c2,AR A3 n3 c3,AR A4 n4 c4] 32));obtain⟨rb,hrb⟩:=gX w1.heap.size;rw[hW1]at hb1 hu2;rw[hrb]at hb1;have GR:=I (hu1.trans hu2)
 have HR:=I (λ(W:tyW) (u:Up W1 W)=>show(V W rb 0 (BG b 0 7 cap)/\V W rb 1 (O 3))/\V W b 12 (O 9)/\V W b 43 (O 2)from by
  have h:=(u.block _ (gE hb1).1).trans hb1;have h1:=(hu2.cell (AJ r1)).trans r1;have h6:=(hu2.cell (AJ r6)).trans r6
  exact⟨⟨AL h 0,AL h 1⟩,(u.cell (AJ h1)).trans h1,(u.cell (AJ h6)).trans h6⟩)
 have HW1:=I hW1;have ZI:=I hrb;clear hb1 hu2 r1 r6 hu1 hW1 hrb
 try clear hb1
 go_upto_region 3 with fail;rw[HW1,ZI];clear HW1 ZI;obtain⟨k0,k1,k2,k3⟩:=HK _ GR;go_wp2_with fail;refine(sg _ GR).mono ?_;rintro e w2 ⟨nb,nh,nB,nX,nov,ndv,ntv,npvs,rfl,hnp⟩;have Cm:=I hnp.up;clear k0 k1 k2 k3 hnp;obtain⟨⟨y0,y1⟩,y2,y3⟩:=HR _ Cm
 go_wp2
 go_ret;exact⟨rfl,HU.trans (GR.trans Cm)⟩
end
end Go.Proofs.YtpodgcpkccpnfaaGreat
