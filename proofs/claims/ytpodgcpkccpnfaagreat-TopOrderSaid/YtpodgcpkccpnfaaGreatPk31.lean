import Derived.Deep.CutBlock
import Derived.BigRegion
import Derived.Test.YtpodgcpkccpnfaaGreatPk30
set_option linter.unusedVariables false
set_option linter.unusedSimpArgs false
set_option maxRecDepth 20000
set_option maxHeartbeats 40000000
namespace Go.Proofs.YtpodgcpkccpnfaaGreat
variable{a:Nat}
section
open Go.RowKit
theorem pR{wr W:tyW}{tb zb tn dc:tyN}{th:Array Value}{DA:tyA}{tl:tyL}(hu:Up wr W)(h1:wr.heap.size<=tb)(h2:wr.heap.size<=zb)(hz:BR W zb #[sN,sN,sN,sN] 27)(ht:BR W tb th 46)
  (hd:Row W DA tn (Bl tl)/\tn<=dc/\(DA=none->dc=0)/\dc<=9223372036854775807):
  Up wr ((((W.setCell (aD zb 0) (BG tb 0 1 1)).setCell (aD zb 1) sN).setCell (aD zb 2) sN).setCell (aD zb 3) (AR DA tn dc))/\wr.heap.size<=tb/\wr.heap.size<=zb/\
  BR ((((W.setCell (aD zb 0) (BG tb 0 1 1)).setCell (aD zb 1) sN).setCell (aD zb 2) sN).setCell (aD zb 3) (AR DA tn dc)) zb #[BG tb 0 1 1,sN,sN,AR DA tn dc] 27/\
  BR ((((W.setCell (aD zb 0) (BG tb 0 1 1)).setCell (aD zb 1) sN).setCell (aD zb 2) sN).setCell (aD zb 3) (AR DA tn dc)) tb th 46/\
  Row ((((W.setCell (aD zb 0) (BG tb 0 1 1)).setCell (aD zb 1) sN).setCell (aD zb 2) sN).setCell (aD zb 3) (AR DA tn dc)) DA tn (Bl tl)/\tn<=dc/\(DA=none->dc=0)/\dc<=9223372036854775807:=by
 have hk:∀k,k≠zb->hSM ((((W.setCell (aD zb 0) (BG tb 0 1 1)).setCell (aD zb 1) sN).setCell (aD zb 2) sN).setCell (aD zb 3) (AR DA tn dc)) W k:=λk hk=>(BF _ ⟨zb,3,none⟩ _ k hk).trans ((BF _ ⟨zb,2,none⟩ _ k hk).trans ((BF _ ⟨zb,1,none⟩ _ k hk).trans (BF _ ⟨zb,0,none⟩ _ k hk)))
 have hne:tb≠zb:=λe=>by
  rw[e,hz]at ht;simp at ht
 refine⟨C5 (p:=aD zb 3) (C5 (p:=aD zb 2) (C5 (p:=aD zb 1) (C5 (p:=aD zb 0) hu h2 _) h2 _) h2 _) h2 _,h1,h2,?_,(hk tb hne).trans ht,Uv hd.1 hz WC (λk _ h=>hk k h),hd.2⟩;exact AT (AT (AT (AT hz 0 _) 1 _) 2 _) 3 _
theorem qu:(Tryz.prog.info? 65).map (λi=>(i.zero,i.size,i.bytes))=some (some (.agg #[(),(),()]),3,24):=Ay
theorem qn:(Tryz.prog.info? 66).map (λi=>(i.zero,i.size,i.bytes))=some (some (.slice none 0 0),1,24):=Ay
theorem YH(x:Fz)(AA KA S9:tyA)(ac kn kc V1:tyN)(w:tyW)(h8:x.kind<256/\x.nn<256)(hd:Row w S9 x.draws.length (Bl x.draws))(ha:Mh w AA x.acts):
  Calls Tryz.prog 11 #[.agg #[.int .u8 x.kind,.int .u8 x.nn,AR AA x.acts.length ac,AR KA kn kc,AR S9 x.draws.length V1]] w λe w'=>
   ∃a,e=BA (.agg #[AR a.TA 1 a.tc,AR a.PA (Oa x) a.pc,sN,AR a.DA (Eu x).length a.dc])/\EF w' (TC x) a/\Up w w':=by
 have ja:=I (λ(W:tyW) (u:Up w W)=>gC x.draws S9 V1 1073741823 W (hd.up u));have HAA:=I (λ(W:tyW) (u:Up w W)=>ha.up u);obtain⟨kind,nn,acts,picks,draws⟩:=x;obtain⟨rR,uf⟩:=h8;dsimp only at rR uf hd ja HAA|-;generalize hdn:draws.length=dn at ja|-;obtain⟨an,yW⟩:=gX acts.length;rw[yW];have HAN:=I yW;have hx1:((kind:tyI).tmod 6)=((kind%6:tyN):tyI):=rfl;have hx2:((nn:tyI).tmod 2)=((nn%2:tyN):tyI):=rfl;obtain⟨k6,ZH⟩:=gX (kind%6);obtain⟨m2,hm2⟩:=gX (nn%2);rw[ZH]at hx1;rw[hm2]at hx2;have AHH:k6<6:=J;have hm22:m2<2:=J;clear hd ha yW hdn;go_enter Tryz.func11,Tryz.ntmps11;go_upto_region 3 with fail;obtain⟨k,hk⟩:∃k:Int,2+(k6:tyI)=k:=⟨_,rfl⟩;rw[hk];have hkk:Ds k:=by unfold Ds;omega
 have M6:=I (And.intro hk (And.intro ZH hm2));have up1:∀(W:tyW) (o:Obj) (k:tyN) (x:Obj),W.heap[k]?=some x->(W.alloc o).heap[k]?=some x:=λW o k x h=>(((AV W).alloc o).block _ (gE h).1).trans h
 have hb1:=up1 _ (Y #[O 7,(),(),(),O k,(),O (-1),O 3] 46) _ _ (up1 _ (Y #[sN,sN,sN,sN] 27) _ _ (Ah w (Y #[.int .u8 kind,.int .u8 nn,AR AA an ac,AR KA kn kc,AR S9 dn V1] 40)));have hb2:=up1 _ (Y #[O 7,(),(),(),O k,(),O (-1),O 3] 46) _ _ (Ah (w.alloc (Y #[.int .u8 kind,.int .u8 nn,AR AA an ac,AR KA kn kc,AR S9 dn V1] 40)) (Y #[sN,sN,sN,sN] 27));clear up1;have hb3:=Ah ((w.alloc (Y #[.int .u8 kind,.int .u8 nn,AR AA an ac,AR KA kn kc,AR S9 dn V1] 40)).alloc (Y #[sN,sN,sN,sN] 27)) (Y #[O 7,(),(),(),O k,(),O (-1),O 3] 46);have hu:=(((AV w).alloc (Y #[.int .u8 kind,.int .u8 nn,AR AA an ac,AR KA kn kc,AR S9 dn V1] 40)).alloc (Y #[sN,sN,sN,sN] 27)).alloc (Y #[O 7,(),(),(),O k,(),O (-1),O 3] 46);obtain⟨w0,hw0⟩:=gX (((w.alloc (Y #[.int .u8 kind,.int .u8 nn,AR AA an ac,AR KA kn kc,AR S9 dn V1] 40)).alloc (Y #[sN,sN,sN,sN] 27)).alloc (Y #[O 7,(),(),(),O k,(),O (-1),O 3] 46));rw[Cy]at hb2;rw[Cy,Cy]at hb3;rw[hw0]at hb1 hb2 hb3 hu|-;clear hw0;have hnt:w.heap.size+1+1=w.heap.size+2:=rfl;rw[hnt]at hb3|-;clear hnt;have HB:=I (And.intro hu (And.intro hb1 (And.intro hb2 hb3)));have q4:=cI hb3 4;have q5:=cI hb3 5;have q6:=cI hb3 6;have q7:=cI hb3 7;have f5:=fI hb3 5;have f6:=fI hb3 6;have f7:=fI hb3 7;clear hu hb1 hb2 hb3 hk AHH hx1 hx2 ZH hm2 rR uf
 go_upto_block 0 with fail
 go_cut[] (λwx=>Hid (Up w wx/\BR wx w #[.int .u8 kind,.int .u8 nn,AR AA an ac,AR KA kn kc,AR S9 dn V1] 40/\BR wx (w+1) #[sN,sN,sN,sN] 27/\BR wx (w+2) #[O 7,(),(),(),O k,O (rkW k),O (-1),O (Ez k)] 46))
 case first=>
  rcases hkk with rfl|rfl|rfl|rfl|rfl|rfl
  all_goals(go_wp2;go_meet)
  .exact I ⟨C5 (p:=aD (w+2) 7) HB.1 (qz _ _) _,(BF _ ⟨w.heap.size+2,7,none⟩ _ _ Az).trans HB.2.1,(BF _ ⟨w.heap.size+2,7,none⟩ _ _ Az).trans HB.2.2.1,AT HB.2.2.2 7 _⟩
  .exact HB
  .exact I ⟨C5 (p:=aD (w+2) 7) HB.1 (qz _ _) _,(BF _ ⟨w.heap.size+2,7,none⟩ _ _ Az).trans HB.2.1,(BF _ ⟨w.heap.size+2,7,none⟩ _ _ Az).trans HB.2.2.1,AT HB.2.2.2 7 _⟩
  .exact HB
  .exact HB
  .exact I ⟨C5 (p:=aD (w+2) 5) HB.1 (qz _ _) _,(BF _ ⟨w.heap.size+2,5,none⟩ _ _ Az).trans HB.2.1,(BF _ ⟨w.heap.size+2,5,none⟩ _ _ Az).trans HB.2.2.1,AT HB.2.2.2 5 _⟩
 case rest=>
  have HB:=hcut;have hb3:=HB.2.2.2;have q4:=cI hb3 4;have q6:=cI hb3 6;have f6:=fI hb3 6;clear hb3 hcut;obtain⟨b45,ADG⟩:∃z:Bool,decide (k=4\/k=5)=z:=⟨_,rfl⟩;have nK:=I ADG;clear ADG;go_upto_region 9 with fail
  go_cut[37] (λv wx=>v= .bool b45/\wx=wc)
  case first=>
   rcases hkk with rfl|rfl|rfl|rfl|rfl|rfl
   all_goals(have zj:=I nK.symm;go_wp2;go_meet;exact⟨by rw[zj];rfl,rfl⟩)
  case rest=>
   obtain⟨rfl,rfl⟩:=hcut;go_upto_if 37 with fail
   go_cut[] (λwx=>Hid (Up w wx/\BR wx w #[.int .u8 kind,.int .u8 nn,AR AA an ac,AR KA kn kc,AR S9 dn V1] 40/\BR wx (w+1) #[sN,sN,sN,sN] 27/\BR wx (w+2) #[O 7,(),(),(),O k,O (rkW k),O (yh k),O (Ez k)] 46))
   case first=>
    cases b45 with
    |true=>
     have nk:=I (show yh k=1 from AK (Il nK.out))
     go_wp2
     go_meet;exact I (by rw[nk];exact⟨C5 (p:=aD (w+2) 6) HB.1 (qz _ _) _,(BF _ ⟨w.heap.size+2,6,none⟩ _ _ Az).trans HB.2.1,(BF _ ⟨w.heap.size+2,6,none⟩ _ _ Az).trans HB.2.2.1,AT HB.2.2.2 6 _⟩)
    |false=>
     have nk:=I (show yh k= -1 from AI (lj nK))
     go_wp2
     go_meet;exact I (by rw[nk];exact HB)
   case rest=>
    rename World=>wr;clear q4 q6 f6 HB nK;obtain⟨ww,jW⟩:=gX (rkW k);obtain⟨rd,hrd⟩:=gX (yh k);obtain⟨tp,htp⟩:=gX (Ez k);rw[jW,hrd,htp]at hcut;have il:=hcut;have sj:=I (And.intro jW (And.intro hrd htp));have htp1:1<=tp:=by rw[<-htp];exact(VC k).1
    have htp3:tp<=3:=by rw[<-htp];exact(VC k).2
    clear hcut jW hrd htp;have HW:=I il.1
    have nI:=I (λ(W:tyW) (u:Up wr W)=>show V W w 4 (AR S9 dn V1)/\(V W (w+2) 0 (O 7)/\V W (w+2) 1 ()/\V W (w+2) 2 ()/\V W (w+2) 3 ())/\V W (w+2) 4 (O k)/\V W (w+2) 5 ww/\V W (w+2) 6 rd/\V W (w+2) 7 tp from by
     have h1:=(u.block _ (gE il.2.1).1).trans il.2.1;have h2:=(u.block _ (gE il.2.2.2).1).trans il.2.2.2
     exact⟨AL h1 4,⟨AL h2 0,AL h2 1,AL h2 2,AL h2 3⟩,AL h2 4,AL h2 5,AL h2 6,AL h2 7⟩)
    obtain⟨tl,htl⟩:=gX (FN (draws.take 3000) 1073741823);rw[htl]at ja;obtain⟨tn,htn⟩:=gX tl.length;rw[htn]at ja;have bM:=I (And.intro htl htn);clear htl htn;go_upto_region 11 with fail
    go_cut[5] (λv5 wx=> ∃(tb zb:tyN) (DA:tyA) (dc:tyN),v5=pT zb/\Hid (Up wr wx/\wr.heap.size<=tb/\wr.heap.size<=zb/\BR wx zb #[BG tb 0 1 1,sN,sN,AR DA tn dc] 27/\BR wx tb #[O 7,(),(),(),O k,ww,rd,tp] 46/\Row wx DA tn (Bl tl)/\tn<=dc/\(DA=none->dc=0)/\dc<=9223372036854775807))
    case first=>
     have HU:=I (show Up wr wr.drew from(AV wr).drew);have hS:=nI _ HU;refine Br (S:=λW=>V W w 4 (AR S9 dn V1)/\(V W (w+2) 0 (O 7)/\V W (w+2) 1 ()/\V W (w+2) 2 ()/\V W (w+2) 3 ())/\V W (w+2) 4 (O k)/\V W (w+2) 5 ww/\V W (w+2) 6 rd/\V W (w+2) 7 tp) Ay hS (λhS0=>?_);clear hS;refine tq 0 hS0 ?_;refine tq 2 hS0 ?_;refine tq 3 hS0 ?_;clear hS0;refine v9 (F:=λ(tb zb:tyN) (DA:tyA) (dc:tyN) (w9:tyW)=>Up wr w9/\wr.heap.size<=tb/\wr.heap.size<=zb/\BR w9 zb #[sN,sN,sN,sN] 27/\BR w9 tb #[O 7,(),(),(),O k,ww,rd,tp] 46/\Row w9 DA tn (Bl tl)/\tn<=dc/\(DA=none->dc=0)/\dc<=9223372036854775807) (G:=?G) (λHT=>?_) ?_;rotate_left
     .refine Dn (rs:=[1,4,6]) SU Az ?_;refine BU rfl (λK hK=>?_) (BU rfl (λK hK=>?_) (BU rfl (λK hK=>?_) (Dp)))
      .go_simp;obtain⟨W6,PU⟩:=gX ((wr.alloc (Y #[O 7,(),(),(),O k,ww,rd,tp] 46)).drew);have Lg:Up wr W6:=by rw[<-PU];exact((AV wr).alloc _).drew
       have V2:BR W6 wr #[O 7,(),(),(),O k,ww,rd,tp] 46:=by rw[<-PU];exact Ah wr _
       obtain⟨tb,bS⟩:=gX wr.heap.size;rw[PU];rw[bS]at V2|-;have Mc:=I (show wr.heap.size<=tb from by rw[<-bS];exact A9 _);have HU:=I Lg
       try have CJ:=I (λ(W:tyW) (u:Up W6 W)=>CJ W (Up.trans Lg u))
       try have CK:=I (λ(W:tyW) (u:Up W6 W)=>CK W (Up.trans Lg u))
       try have HDR:=I (λ(W:tyW) (u:Up W6 W)=>HDR W (Up.trans Lg u))
       have CJ:=I (λ(W:tyW) (u:Up W6 W)=>show BR W tb #[O 7,(),(),(),O k,ww,rd,tp] 46 from(u.block _ (gE V2).1).trans V2);clear PU Lg V2 bS;refine bk hK (nI _ HU) λGJ=>?_
       refine Dn (rs:=[4,6]) SU Az ?_;refine BU rfl (λK hK=>?_) (BU rfl (λK hK=>?_) (Dp))
       .go_simp;refine(ja _ (HW.trans HU)).mono ?_;rintro e W7 ⟨DA,dc,rfl,hrow,hle,hnil,hmax,hge,EX⟩;have HU:=I (HU.trans EX)
        try have CJ:=I (λ(W:tyW) (u:Up W7 W)=>CJ W (Up.trans EX u))
        try have CK:=I (λ(W:tyW) (u:Up W7 W)=>CK W (Up.trans EX u))
        try have HDR:=I (λ(W:tyW) (u:Up W7 W)=>HDR W (Up.trans EX u))
        have HDR:=I (λ(W:tyW) (u:Up W7 W)=>And.intro (Row.up (w':=W) hrow u) (And.intro hle (And.intro hnil hmax)));clear hrow hle hnil hmax hge EX;refine bk hK (nI _ HU) λGy=>?_
        refine tq 5 Gy ?_;refine tr 6 λK hK=>?_
        go_simp;obtain⟨W8,SN⟩:=gX (W7.alloc (Y #[sN,sN,sN,sN] 27));have EY:Up W7 W8:=by rw[<-SN];exact((AV W7).alloc _)
        have KL:BR W8 W7 #[sN,sN,sN,sN] 27:=by rw[<-SN];exact Ah W7 _
        obtain⟨zb,M4⟩:=gX W7.heap.size;rw[SN];rw[M4]at KL|-;have Md:=I (show wr.heap.size<=zb from by rw[<-M4];exact HU.size);have HU:=I (HU.trans EY)
        try have CJ:=I (λ(W:tyW) (u:Up W8 W)=>CJ W (Up.trans EY u))
        try have CK:=I (λ(W:tyW) (u:Up W8 W)=>CK W (Up.trans EY u))
        try have HDR:=I (λ(W:tyW) (u:Up W8 W)=>HDR W (Up.trans EY u))
        have CK:=I (λ(W:tyW) (u:Up W8 W)=>show BR W zb #[sN,sN,sN,sN] 27 from(u.block _ (gE KL).1).trans KL);clear SN EY KL M4;refine bk hK (nI _ HU) λhS5=>?_
        exact HT tb zb DA dc W8 ⟨HU,Mc,Md,CK _ (AV _),CJ _ (AV _),HDR _ (AV _)⟩
       .go_simp;obtain⟨W7,SO⟩:=gX (W6.alloc (Y #[sN,sN,sN,sN] 27));have EX:Up W6 W7:=by rw[<-SO];exact((AV W6).alloc _)
        have KM:BR W7 W6 #[sN,sN,sN,sN] 27:=by rw[<-SO];exact Ah W6 _
        obtain⟨zb,M5⟩:=gX W6.heap.size;rw[SO];rw[M5]at KM|-;have Md:=I (show wr.heap.size<=zb from by rw[<-M5];exact HU.size);have HU:=I (HU.trans EX)
        try have CJ:=I (λ(W:tyW) (u:Up W7 W)=>CJ W (Up.trans EX u))
        try have CK:=I (λ(W:tyW) (u:Up W7 W)=>CK W (Up.trans EX u))
        try have HDR:=I (λ(W:tyW) (u:Up W7 W)=>HDR W (Up.trans EX u))
        have CK:=I (λ(W:tyW) (u:Up W7 W)=>show BR W zb #[sN,sN,sN,sN] 27 from(u.block _ (gE KM).1).trans KM);clear SO EX KM M5;refine bk hK (nI _ HU) λGy=>?_
        refine tr 4 λK hK=>?_
        go_simp;refine(ja _ (HW.trans HU)).mono ?_;rintro e W8 ⟨DA,dc,rfl,hrow,hle,hnil,hmax,hge,EY⟩;have HU:=I (HU.trans EY)
        try have CJ:=I (λ(W:tyW) (u:Up W8 W)=>CJ W (Up.trans EY u))
        try have CK:=I (λ(W:tyW) (u:Up W8 W)=>CK W (Up.trans EY u))
        try have HDR:=I (λ(W:tyW) (u:Up W8 W)=>HDR W (Up.trans EY u))
        have HDR:=I (λ(W:tyW) (u:Up W8 W)=>And.intro (Row.up (w':=W) hrow u) (And.intro hle (And.intro hnil hmax)));clear hrow hle hnil hmax hge EY;refine bk hK (nI _ HU) λhS5=>?_
        refine tq 5 hS5 ?_;exact HT tb zb DA dc W8 ⟨HU,Mc,Md,CK _ (AV _),CJ _ (AV _),HDR _ (AV _)⟩
      .go_simp;refine(ja _ (HW.trans HU)).mono ?_;rintro e W6 ⟨DA,dc,rfl,hrow,hle,hnil,hmax,hge,Lg⟩;have HU:=I (HU.trans Lg)
       try have CJ:=I (λ(W:tyW) (u:Up W6 W)=>CJ W (Up.trans Lg u))
       try have CK:=I (λ(W:tyW) (u:Up W6 W)=>CK W (Up.trans Lg u))
       try have HDR:=I (λ(W:tyW) (u:Up W6 W)=>HDR W (Up.trans Lg u))
       have HDR:=I (λ(W:tyW) (u:Up W6 W)=>And.intro (Row.up (w':=W) hrow u) (And.intro hle (And.intro hnil hmax)));clear hrow hle hnil hmax hge Lg;refine bk hK (nI _ HU) λGJ=>?_
       refine Dn (rs:=[1,6]) SU Az ?_;refine BU rfl (λK hK=>?_) (BU rfl (λK hK=>?_) (Dp))
       .go_simp;obtain⟨W7,SO⟩:=gX (W6.alloc (Y #[O 7,(),(),(),O k,ww,rd,tp] 46));have EX:Up W6 W7:=by rw[<-SO];exact((AV W6).alloc _)
        have KM:BR W7 W6 #[O 7,(),(),(),O k,ww,rd,tp] 46:=by rw[<-SO];exact Ah W6 _
        obtain⟨tb,M5⟩:=gX W6.heap.size;rw[SO];rw[M5]at KM|-;have Mc:=I (show wr.heap.size<=tb from by rw[<-M5];exact HU.size);have HU:=I (HU.trans EX)
        try have CJ:=I (λ(W:tyW) (u:Up W7 W)=>CJ W (Up.trans EX u))
        try have CK:=I (λ(W:tyW) (u:Up W7 W)=>CK W (Up.trans EX u))
        try have HDR:=I (λ(W:tyW) (u:Up W7 W)=>HDR W (Up.trans EX u))
        have CJ:=I (λ(W:tyW) (u:Up W7 W)=>show BR W tb #[O 7,(),(),(),O k,ww,rd,tp] 46 from(u.block _ (gE KM).1).trans KM);clear SO EX KM M5;refine bk hK (nI _ HU) λGy=>?_
        refine tq 5 Gy ?_;refine tr 6 λK hK=>?_
        go_simp;obtain⟨W8,SN⟩:=gX (W7.alloc (Y #[sN,sN,sN,sN] 27));have EY:Up W7 W8:=by rw[<-SN];exact((AV W7).alloc _)
        have KL:BR W8 W7 #[sN,sN,sN,sN] 27:=by rw[<-SN];exact Ah W7 _
        obtain⟨zb,M4⟩:=gX W7.heap.size;rw[SN];rw[M4]at KL|-;have Md:=I (show wr.heap.size<=zb from by rw[<-M4];exact HU.size);have HU:=I (HU.trans EY)
        try have CJ:=I (λ(W:tyW) (u:Up W8 W)=>CJ W (Up.trans EY u))
        try have CK:=I (λ(W:tyW) (u:Up W8 W)=>CK W (Up.trans EY u))
        try have HDR:=I (λ(W:tyW) (u:Up W8 W)=>HDR W (Up.trans EY u))
        have CK:=I (λ(W:tyW) (u:Up W8 W)=>show BR W zb #[sN,sN,sN,sN] 27 from(u.block _ (gE KL).1).trans KL);clear SN EY KL M4;refine bk hK (nI _ HU) λhS5=>?_
        exact HT tb zb DA dc W8 ⟨HU,Mc,Md,CK _ (AV _),CJ _ (AV _),HDR _ (AV _)⟩
       .go_simp;obtain⟨W7,SO⟩:=gX (W6.alloc (Y #[sN,sN,sN,sN] 27));have EX:Up W6 W7:=by rw[<-SO];exact((AV W6).alloc _)
        have KM:BR W7 W6 #[sN,sN,sN,sN] 27:=by rw[<-SO];exact Ah W6 _
        obtain⟨zb,M5⟩:=gX W6.heap.size;rw[SO];rw[M5]at KM|-;have Md:=I (show wr.heap.size<=zb from by rw[<-M5];exact HU.size);have HU:=I (HU.trans EX)
        try have CJ:=I (λ(W:tyW) (u:Up W7 W)=>CJ W (Up.trans EX u))
        try have CK:=I (λ(W:tyW) (u:Up W7 W)=>CK W (Up.trans EX u))
        try have HDR:=I (λ(W:tyW) (u:Up W7 W)=>HDR W (Up.trans EX u))
        have CK:=I (λ(W:tyW) (u:Up W7 W)=>show BR W zb #[sN,sN,sN,sN] 27 from(u.block _ (gE KM).1).trans KM);clear SO EX KM M5;refine bk hK (nI _ HU) λGy=>?_
        refine tr 1 λK hK=>?_
        go_simp;obtain⟨W8,SN⟩:=gX (W7.alloc (Y #[O 7,(),(),(),O k,ww,rd,tp] 46));have EY:Up W7 W8:=by rw[<-SN];exact((AV W7).alloc _)
        have KL:BR W8 W7 #[O 7,(),(),(),O k,ww,rd,tp] 46:=by rw[<-SN];exact Ah W7 _
        obtain⟨tb,M4⟩:=gX W7.heap.size;rw[SN];rw[M4]at KL|-;have Mc:=I (show wr.heap.size<=tb from by rw[<-M4];exact HU.size);have HU:=I (HU.trans EY)
        try have CJ:=I (λ(W:tyW) (u:Up W8 W)=>CJ W (Up.trans EY u))
        try have CK:=I (λ(W:tyW) (u:Up W8 W)=>CK W (Up.trans EY u))
        try have HDR:=I (λ(W:tyW) (u:Up W8 W)=>HDR W (Up.trans EY u))
        have CJ:=I (λ(W:tyW) (u:Up W8 W)=>show BR W tb #[O 7,(),(),(),O k,ww,rd,tp] 46 from(u.block _ (gE KL).1).trans KL);clear SN EY KL M4;refine bk hK (nI _ HU) λhS5=>?_
        refine tq 5 hS5 ?_;exact HT tb zb DA dc W8 ⟨HU,Mc,Md,CK _ (AV _),CJ _ (AV _),HDR _ (AV _)⟩
      .go_simp;obtain⟨W6,PU⟩:=gX ((wr.alloc (Y #[sN,sN,sN,sN] 27)).drew);have Lg:Up wr W6:=by rw[<-PU];exact((AV wr).alloc _).drew
       have V2:BR W6 wr #[sN,sN,sN,sN] 27:=by rw[<-PU];exact Ah wr _
       obtain⟨zb,bS⟩:=gX wr.heap.size;rw[PU];rw[bS]at V2|-;have Md:=I (show wr.heap.size<=zb from by rw[<-bS];exact A9 _);have HU:=I Lg
       try have CJ:=I (λ(W:tyW) (u:Up W6 W)=>CJ W (Up.trans Lg u))
       try have CK:=I (λ(W:tyW) (u:Up W6 W)=>CK W (Up.trans Lg u))
       try have HDR:=I (λ(W:tyW) (u:Up W6 W)=>HDR W (Up.trans Lg u))
       have CK:=I (λ(W:tyW) (u:Up W6 W)=>show BR W zb #[sN,sN,sN,sN] 27 from(u.block _ (gE V2).1).trans V2);clear PU Lg V2 bS;refine bk hK (nI _ HU) λGJ=>?_
       refine Dn (rs:=[1,4]) SU Az ?_;refine BU rfl (λK hK=>?_) (BU rfl (λK hK=>?_) (Dp))
       .go_simp;obtain⟨W7,SO⟩:=gX (W6.alloc (Y #[O 7,(),(),(),O k,ww,rd,tp] 46));have EX:Up W6 W7:=by rw[<-SO];exact((AV W6).alloc _)
        have KM:BR W7 W6 #[O 7,(),(),(),O k,ww,rd,tp] 46:=by rw[<-SO];exact Ah W6 _
        obtain⟨tb,M5⟩:=gX W6.heap.size;rw[SO];rw[M5]at KM|-;have Mc:=I (show wr.heap.size<=tb from by rw[<-M5];exact HU.size);have HU:=I (HU.trans EX)
        try have CJ:=I (λ(W:tyW) (u:Up W7 W)=>CJ W (Up.trans EX u))
        try have CK:=I (λ(W:tyW) (u:Up W7 W)=>CK W (Up.trans EX u))
        try have HDR:=I (λ(W:tyW) (u:Up W7 W)=>HDR W (Up.trans EX u))
        have CJ:=I (λ(W:tyW) (u:Up W7 W)=>show BR W tb #[O 7,(),(),(),O k,ww,rd,tp] 46 from(u.block _ (gE KM).1).trans KM);clear SO EX KM M5;refine bk hK (nI _ HU) λGy=>?_
        refine tr 4 λK hK=>?_
        go_simp;refine(ja _ (HW.trans HU)).mono ?_;rintro e W8 ⟨DA,dc,rfl,hrow,hle,hnil,hmax,hge,EY⟩;have HU:=I (HU.trans EY)
        try have CJ:=I (λ(W:tyW) (u:Up W8 W)=>CJ W (Up.trans EY u))
        try have CK:=I (λ(W:tyW) (u:Up W8 W)=>CK W (Up.trans EY u))
        try have HDR:=I (λ(W:tyW) (u:Up W8 W)=>HDR W (Up.trans EY u))
        have HDR:=I (λ(W:tyW) (u:Up W8 W)=>And.intro (Row.up (w':=W) hrow u) (And.intro hle (And.intro hnil hmax)));clear hrow hle hnil hmax hge EY;refine bk hK (nI _ HU) λhS5=>?_
        refine tq 5 hS5 ?_;exact HT tb zb DA dc W8 ⟨HU,Mc,Md,CK _ (AV _),CJ _ (AV _),HDR _ (AV _)⟩
       .go_simp;refine(ja _ (HW.trans HU)).mono ?_;rintro e W7 ⟨DA,dc,rfl,hrow,hle,hnil,hmax,hge,EX⟩;have HU:=I (HU.trans EX)
        try have CJ:=I (λ(W:tyW) (u:Up W7 W)=>CJ W (Up.trans EX u))
        try have CK:=I (λ(W:tyW) (u:Up W7 W)=>CK W (Up.trans EX u))
        try have HDR:=I (λ(W:tyW) (u:Up W7 W)=>HDR W (Up.trans EX u))
        have HDR:=I (λ(W:tyW) (u:Up W7 W)=>And.intro (Row.up (w':=W) hrow u) (And.intro hle (And.intro hnil hmax)));clear hrow hle hnil hmax hge EX;refine bk hK (nI _ HU) λGy=>?_
        refine tr 1 λK hK=>?_
        go_simp;obtain⟨W8,SN⟩:=gX (W7.alloc (Y #[O 7,(),(),(),O k,ww,rd,tp] 46));have EY:Up W7 W8:=by rw[<-SN];exact((AV W7).alloc _)
        have KL:BR W8 W7 #[O 7,(),(),(),O k,ww,rd,tp] 46:=by rw[<-SN];exact Ah W7 _
        obtain⟨tb,M4⟩:=gX W7.heap.size;rw[SN];rw[M4]at KL|-;have Mc:=I (show wr.heap.size<=tb from by rw[<-M4];exact HU.size);have HU:=I (HU.trans EY)
        try have CJ:=I (λ(W:tyW) (u:Up W8 W)=>CJ W (Up.trans EY u))
        try have CK:=I (λ(W:tyW) (u:Up W8 W)=>CK W (Up.trans EY u))
        try have HDR:=I (λ(W:tyW) (u:Up W8 W)=>HDR W (Up.trans EY u))
        have CJ:=I (λ(W:tyW) (u:Up W8 W)=>show BR W tb #[O 7,(),(),(),O k,ww,rd,tp] 46 from(u.block _ (gE KL).1).trans KL);clear SN EY KL M4;refine bk hK (nI _ HU) λhS5=>?_
        refine tq 5 hS5 ?_;exact HT tb zb DA dc W8 ⟨HU,Mc,Md,CK _ (AV _),CJ _ (AV _),HDR _ (AV _)⟩
     .intro tb zb DA dc w9 hF;refine tr 7 λK hK=>?_
      have hb:=hF.2.2.2.1;have q0:=cI hb 0;have q1:=cI hb 1;have q2:=cI hb 2;have q3:=cI hb 3;have f0:=fI hb 0;have f1:=fI hb 1;have f2:=fI hb 2;have f3:=fI hb 3;have M3:=I (pR hF.1 hF.2.1 hF.2.2.1 hF.2.2.2.1 hF.2.2.2.2.1 hF.2.2.2.2.2);clear hb hF;go_simp;refine bk hK (nI _ M3.1) λhS9=>?_
      refine CN Ay ?_ _
      try simp only[Act.put,DH,DI,DG,Ei,Ef,Ee]
      go_wp2
      go_meet;exact⟨tb,zb,DA,dc,rfl,M3⟩
    case rest=>
     obtain⟨tb,zb,DA,dc,rfl,HC⟩:=hcut;obtain⟨d3,hd3⟩:=gX (min tn 64);have HD3:=I hd3;have HMX:=I (show tn<=3000 from by rw[<-bM.2,<-bM.1];unfold FN;rw[Ca,Ie];omega);have Ea:=I (show(tl.take 64).length=d3 from by rw[Ie,bM.2,<-hd3];exact Nat.min_comm _ _)
     have HIV:=I (λ(i:tyN) (hi:i<d3)=>show Bl (tl.take 64) i=Bl tl i from by
      unfold Bl;have:i<64:=J
      rw[gD,gD,Us,AK this])
     clear hd3;have hb:=HC.2.2.2.1;have q3:=cI hb 3;have f3:=fI hb 3;clear hb;go_upto_if 48 with fail
     go_cut[] (λwx=>Hid (Up wr wx/\wr.heap.size<=tb/\wr.heap.size<=zb/\BR wx zb #[BG tb 0 1 1,sN,sN,AR DA d3 dc] 27/\BR wx tb #[O 7,(),(),(),O k,ww,rd,tp] 46/\Row wx DA d3 (Bl (tl.take 64))/\d3<=dc/\(DA=none->dc=0)/\dc<=9223372036854775807))
     case first=>
      rcases CR 64 tn with h|h
      .have h64:(64:tyI)<tn:=J;have hcap:(64:tyI)<=dc:=by have:=HC.out.2.2.2.2.2.2.1;omega
       have hd:d3=64:=by have:=HD3.out;omega
       subst hd;have huf:=C5 (p:=aD zb 3) HC.1 HC.2.2.1 (AR DA 64 dc);have hzb:=AT HC.2.2.2.1 3 (AR DA 64 dc)
       have hne:tb≠zb:=λe=>by
        have h1:=HC.2.2.2.2.1;rw[e,HC.2.2.2.1]at h1;simp at h1
       have htb:=(BF wc ⟨zb,3,none⟩ (AR DA 64 dc) tb hne).trans HC.2.2.2.2.1
       have hrow:Row wc DA 64 (Bl (tl.take 64)):=λi hi=>by
        rw[HIV i hi];exact HC.2.2.2.2.2.1 i J
       have hrow2:Row (wc.setCell (aD zb 3) (AR DA 64 dc)) DA 64 (Bl (tl.take 64)):=Uv hrow HC.2.2.2.1 (XP tb DA tn dc) (λk _ hk=>BF wc ⟨zb,3,none⟩ (AR DA 64 dc) k hk);have M3:=I (And.intro huf (And.intro HC.2.2.1 (And.intro hzb (And.intro htb (And.intro hrow2 (And.intro (show 64<=dc by omega) HC.2.2.2.2.2.2.2))))));clear huf hzb hne htb hrow hrow2 h
       go_wp2
       go_meet;exact I (And.intro M3.1 (And.intro HC.2.1 M3.2))
      .have h64:¬(64:tyI)<tn:=J;have hd:d3=tn:=by have:=HD3.out;omega
       subst hd;have M3:=I (And.intro HC.1 (And.intro HC.2.1 (And.intro HC.2.2.1 (And.intro HC.2.2.2.1 (And.intro HC.2.2.2.2.1 (And.intro (show Row wc DA d3 (Bl (tl.take 64))from λi hi=>by rw[HIV i hi];exact HC.2.2.2.2.2.1 i hi) HC.2.2.2.2.2.2))))));clear h
       go_wp2
       go_meet;exact M3
     case rest=>
      rename World=>W0;clear HC HIV q3 f3 ja;have HC:=hcut;clear hcut;have hn1:(0:tyI)<=m2:=J;have Mb:=I (HW.trans HC.1);have EK:=I (show w.heap.size<=zb/\zb<W0.heap.size from⟨by have:=HW.out.size;have:=HC.2.2.1;omega,(gE HC.2.2.2.1).1⟩);obtain⟨eI,AHJ⟩:=gX (2+m2);have hnc:(2:tyI)+m2=eI:=J;obtain⟨P,hP⟩:=gX (JM ⟨kind,nn,acts,picks,draws⟩);have hkE:V5 ⟨kind,nn,acts,picks,draws⟩=k:=by unfold V5;dsimp only;rw[M6.2.1];exact M6.1
      have xT:Oa ⟨kind,nn,acts,picks,draws⟩=eI:=by unfold Oa;dsimp only;rw[M6.2.2];exact AHJ
      have UT:=I (show P.length=eI from by rw[<-hP,Jr,xT]);have ze:=I (λ(t:tyN) (h:t<eI)=>show P.getD t []=Ga tp (acts.getD t []) 6 from by rw[<-hP,IY _ (by rw[xT];exact h),hkE,sj.2.2])
      have US:=I (λ(t:tyN)=>show(P.getD t []).length<=1000000 from by
       rcases CR t eI with h|h
       .rw[ze t h];exact DB (Qo _ _ _) AQ
       .rw[gD,VA (by rw[UT];exact h)];exact DV _)
      have HPE:=I (And.intro hP (And.intro hkE xT));have HB0:Hid (RE w W0 W0 zb (BG tb 0 1 1) (AR DA d3 dc) sN [] P):=I ⟨Mb,A9 _,λk _ _=>rfl,HC.2.2.2.1,C3 _ _ _ _,λi hi=>(by simp at hi)⟩;obtain⟨i0,hi',hz0,hz1,hz2⟩:=info_parts qu;have V8:=I hi';have HZ0:=I hz0;have HZ1:=I hz1;have HZ2:=I hz2;obtain⟨j0,hi',hz0,hz1,hz2⟩:=info_parts qn;have HJE:=I hi';have HY0:=I hz0;have HY1:=I hz1;have yX:=I hz2;have bG:eI<=3:=J;have zF:=I bG
      have HOLD:=I (λ(wx:tyW) (pv:tyV) (Bj:List Value) (hR:RE w W0 wx zb (BG tb 0 1 1) (AR DA d3 dc) pv Bj P) (W:tyW) (u:Up wx W)=>show V W w 2 (AR AA an ac)/\V W (w+2) 7 tp from by
       have hlt:=(gE il.2.2.2).1;have hlt1:=(gE il.2.1).1;have hz:=HC.2.2.1;have hs:=HC.1.size;have h1:=(hR.fr w.heap.size J J).trans ((HC.1.block _ hlt1).trans il.2.1);have h2:=(hR.fr (w.heap.size+2) J J).trans ((HC.1.block _ hlt).trans il.2.2.2)
       exact⟨AL ((u.block _ (gE h1).1).trans h1) 2,AL ((u.block _ (gE h2).1).trans h2) 7⟩)
      clear hi' hz0 hz1 hz2 hP hkE xT bG;rw[hnc];go_wp2_with fail
      go_loopw[6] (λiv wx=> ∃i:Nat,i<=eI/\iv=O i/\Hid (∃pv Bj,Bj.length=i/\RE w W0 wx zb (BG tb 0 1 1) (AR DA d3 dc) pv Bj P)) (λiv _=>eI-(intOf iv).toNat)
      case atStart=>exact⟨0,J,rfl,I ⟨_,[],rfl,HB0⟩⟩
      case round=>
       rename World=>wx;obtain⟨i,hi,rfl,HH⟩:=hrel;obtain⟨pv,Bj,hpl,hR⟩:=HH.out;have HR:=I hR;have iu:=I hpl;clear HH hR hpl;obtain⟨Ap,cp,rfl,_,_⟩:=Af HR.row;by_cases hlt:i<eI
       .have hii:(i:tyI)<eI:=J;have hi3:i<=2:=by have:=zF.out;omega
        have HI:=I (And.intro hlt hi3);have wO:=I (λ(W:tyW) (u:Up wx W)=>HOLD wx _ _ HR W u);have HRX:=I (λ(W:tyW) (u:Up wx W)=>HR.grow u);have sV:=I (λ(W:tyW) (u:Up wx W)=>HAA W (HR.up.trans u));obtain⟨al,hal⟩:=gX (acts.getD i []);obtain⟨ln,hln⟩:=gX al.length;have pC:=I (And.intro hal hln)
        have HL0:=I (λ(h:¬i<an)=>show ln=0 from by
         rw[<-hln,<-hal,gD,VA (by rw[HAN];omega)];rfl)
        have HPI:=I (show P.getD Bj.length []=Ga tp al 6 from by rw[iu,ze i hlt,hal]);have hi0:(0:tyI)<=i:=J;clear hi3 hal hln;go_wp2_with fail
        go_loopw[7,8] (λpw jw wy=> ∃j:Nat,(j<=6/\j<=ln)/\jw=O j/\Hid (CM wy wx.heap.size pw (Ga tp al j))/\Hid (Up wx wy)) (λ_ jw _=>6-(intOf jw).toNat)
        case atStart=>exact⟨0,⟨J,J⟩,rfl,I (C3 _ _ _ _),I (AV _)⟩
        case round=>
         rename World=>wy;obtain⟨j,⟨hj,hjn⟩,rfl,HP,HU⟩:=hrel;obtain⟨c2,c7⟩:=wO _ HU;have hj0:(0:tyI)<=j:=J;have hjb:(j:tyI)<=6:=J;obtain⟨bb,hbb⟩:∃bb:Bool,decide (i<an/\j<ln/\j<6)=bb:=⟨_,rfl⟩;have QJ:=I hbb;have HJ:=I (And.intro hj hjn);have HCC:=I (And.intro c2 c7);obtain⟨Aq,cq,rfl,_,_⟩:=Af HP;clear c7 hbb;go_upto_region 19 with fail
         go_cut[76] (λv wz=>v= .bool bb/\wz=wy)
         case first=>
          by_cases hia:i<an
          .have hiz:(i:tyI)<an:=J;obtain⟨b,off,A',c',eA,hc0,hrow⟩:=sV _ HU i (by rw[HAN];exact hia);rw[pC.1,pC.2]at hc0;rw[eA]at c2;clear hrow eA;by_cases hjl:j<ln
           .have hjz:(j:tyI)<ln:=J;by_cases yY:j<6
            .have AHM:(j:tyI)<6:=J;have hb1:bb=true:=by rw[<-QJ];exact Fi ⟨hia,hjl,yY⟩
             have HB1:=I hb1;clear hb1 yY hjl hia
             go_wp2
             go_meet;exact⟨by rw[HB1],rfl⟩
            .have AHM:¬(j:tyI)<6:=J;have hb1:bb=false:=by rw[<-QJ];exact DF λh=>yY h.2.2
             have HB1:=I hb1;clear hb1 yY hjl hia
             go_wp2
             go_meet;exact⟨by rw[HB1],rfl⟩
           .have hjz:¬(j:tyI)<ln:=J;have hb1:bb=false:=by rw[<-QJ];exact DF λh=>hjl h.2.1
            have HB1:=I hb1;clear hb1 hjl hia
            go_wp2
            go_meet;exact⟨by rw[HB1],rfl⟩
          .have hiz:¬(i:tyI)<an:=J;have hb1:bb=false:=by rw[<-QJ];exact DF λh=>hia h.1
           have HB1:=I hb1;clear hb1 hia
           go_wp2
           go_meet;exact⟨by rw[HB1],rfl⟩
         case rest=>
          obtain⟨rfl,rfl⟩:=hcut;cases bb with
          |true=>
           have hT:=Il QJ.out;have hia:=hT.1;have hjl:=hT.2.1;have yY:=hT.2.2;obtain⟨b,off,A',c',eA,hc0,hrow⟩:=sV _ HU i (by rw[HAN];exact hia);rw[pC.1,pC.2]at hc0 hrow;obtain⟨b2,Kn,rfl,bI⟩:=hrow j hjl;unfold Bl at bI;have HAS:=I (show Ga tp al (j+1)=Ga tp al j++[Ld tp (al.getD j 0)]from eJ (by rw[pC.2];exact hjl));have zW:=I (show(Ga tp al j).length=j from by unfold Ga;rw[Ca,Ie,pC.2];omega);generalize al.getD j 0=av at*;obtain⟨c2,c7⟩:=wO _ HU;rw[eA]at c2
           have HSF:=I (λ(W:tyW) (u:Up wc W)=>show(V W w 2 (BG b off an ac)/\V W b (off+i) (BG b2 Kn ln c'))/\V W b2 (Kn+j) av/\V W (w+2) 7 tp from
            ⟨⟨(u.cell (AJ c2)).trans c2,(u.cell (AJ hc0)).trans hc0⟩,(u.cell (AJ bI)).trans bI,(u.cell (AJ c7)).trans c7⟩)
           have hiz:(i:tyI)<an:=J;have hjz:(j:tyI)<ln:=J;have HJ2:=I (And.intro hjl yY);have hb5:=Ah wc (Y #[O 15,(),()] 65);have OK:=(AV wc).alloc (Y #[O 15,(),()] 65);obtain⟨W5,yN⟩:=gX (wc.alloc (Y #[O 15,(),()] 65));obtain⟨cb,hcb⟩:=gX wc.heap.size;rw[yN]at hb5 OK;rw[hcb]at hb5;have zR:=I (And.intro yN hcb);have FA:=I (And.intro OK (And.intro (show wc.heap.size<=cb by omega) hb5));clear hT hia hjl yY c2 c7 hc0 hrow bI eA hb5 OK yN hcb
           try clear c2
           go_upto_region 22 with fail;rw[zR.1,zR.2];clear zR;obtain⟨⟨c2,c3⟩,c9,c7⟩:=HSF _ FA.1;go_upto_if 88 with fail;clear c2 c3 c9 c7;obtain⟨⟨x0,x1,x2⟩,hxx⟩:∃z,Ld tp av=z:=⟨_,rfl⟩
           have hx1:x1=0:=by have:(Ld tp av).2.1=0:=by unfold Ld;split<;>rfl
                             rw[hxx]at this;exact this
           subst hx1;have HXX:=I hxx
           go_cut[] (λwz=>Hid (Up wc wz/\BR wz cb #[x0,(),x2] 65))
           case first=>
            by_cases h0:0<=av
            .have HE:=I (show x0=16/\x2=av.tmod (tp+1)from by have h:=HXX.out;unfold Ld at h;rw[AK h0]at h;cases h;exact⟨rfl,rfl⟩);have HM:=I (And.intro (Int.tmod_nonneg (tp+1) h0) (Int.tmod_lt_of_pos av (show 0<tp+1 by omega)));go_upto_region 23 with fail;have hi1:IntKind.i64.wrap (tp+1)=tp+1:=IntWalk.i64_in _ J;have hi2:IntKind.i64.wrap (av.tmod (tp+1))=av.tmod (tp+1):=IntWalk.i64_in _ (by have:=HM.out;omega);have hnz:¬tp+1=0:=J;obtain⟨⟨c2,c3⟩,c9,c7⟩:=HSF _ FA.1;have q0:=cI FA.2.2 0;have q1:=cI FA.2.2 1;have q2:=cI FA.2.2 2;have f0:=fI FA.2.2 0;have f1:=fI FA.2.2 1;have f2:=fI FA.2.2 2;go_region;clear c2 c3 c9 c7 q0 q1 q2 f0 f1 f2;have HG:=I (show Up wc ((W5.setCell (aD cb 0) (O 16)).setCell (aD cb 1) ()|>.setCell (aD cb 2) (O (av%(tp+1)))).drew from(C5 (p:=aD cb 2) (C5 (p:=aD cb 1) (C5 (p:=aD cb 0) FA.1 FA.2.1 _) FA.2.1 _) FA.2.1 _).drew)
             have HF:=I (show((W5.setCell (aD cb 0) (O 16)).setCell (aD cb 1) ()|>.setCell (aD cb 2) (O (av%(tp+1)))).drew.heap[cb]?=some (.cells #[x0,(),x2] 65 (0,0))from by
              rw[HE.1,HE.2,rH h0]
              exact AT (AT (AT FA.2.2 0 _) 1 _) 2 _)
             go_wp2
             go_meet;exact I ⟨HG,HF⟩
            .have HE:=I (show x0=15/\x2=0 from by have h:=HXX.out;unfold Ld at h;rw[AI h0]at h;cases h;exact⟨rfl,rfl⟩)
             go_wp2
             go_meet;exact I ⟨FA.1,by rw[HE.1,HE.2];exact FA.2.2⟩
           case rest=>
            rename World=>wz;have Vm:=hcut;clear hcut FA;have ZC:=I Vm.2;have sh:=I (HU.trans Vm.1);have io:Hid (wz.ownsRow wx.heap.size 65 3 (AR Aq j cq) j ((Ga tp al j).flatMap Lb)):=I (AS (by have:=HP.out;unfold CM at this;rw[zW]at this;exact this) λk e=>Vm.1.block k ((HP).lt k (by rw[zW];exact e)).2);have HJ3:=I (show j<=6 from by have:=HJ.out.1;omega);rw[zW]
            go_wp2_with(first
             |(at_builtin;refine wpList_append_lies _ rfl (.tmp 102) (.tmp 104) 66 rfl wx.heap.size 65 i0 (.agg #[(),(),()]) 3 24 Tryz.underlying66 V8 HZ0 HZ1 HZ2 rfl AQ _ j ((Ga tp al j).flatMap Lb) rfl (EB io ((AV _).alloc _)) ⟨wz.heap.size,0,none⟩ 1 1 [x0,(),x2] rfl rfl (CQ wz [x0,(),x2] 65) (by simp[Value.oneCell']) AQ (by have:=HJ3.out;unfold maxLen;omega) (by have:=HJ3.out;omega) (by have:=sh.size;simp;omega) _ rfl ?_)
             |(refine Hl rfl 65 (.tmp 9) rfl cb rfl 65 #[x0,(),x2] (0,0) _ ZC Tryz.underlying65 rfl Ay ?_))
            intro g1 cap w1 hown1 hgrow hat hlt1
            have Jd:=I (show CM w1 wx.heap.size (BG g1 0 (j+1) cap) (Ga tp al (j+1))from by
             unfold CM;rw[HAS,Gx,zW,HXX,Y8]
             exact hown1)
            have Cm:=I (show Up wx w1 from(Up.alloc sh _).grown hgrow (by have:=sh.out.size;simp;omega) (DS io));clear hown1 hgrow hat hlt1
            go_wp2
            go_roundw
            case rel=>(repeat apply Exists.intro);first|exact⟨⟨by have:=HJ2.out;omega,by have:=HJ2.out;omega⟩,by first|rfl|exact Ev j (by have:=HJ2.out;omega),Jd,Cm⟩|exact⟨⟨⟨by have:=HJ2.out;omega,by have:=HJ2.out;omega⟩,by first|rfl|exact Ev j (by have:=HJ2.out;omega),Jd,Cm⟩,rfl⟩
            case measure=>first|exact FO j 6 (by have:=HJ2.out;omega)|exact Gj j 6 (by have:=HJ2.out;omega) (by have:=HJ2.out;omega)
          |false=>
           have HRY:=I (HRX _ HU);have HRZ:=I HR.out
           have HPF:=I (show Ga tp al j=Ga tp al 6 from by
            have hF:=lj QJ;refine iT ?_ hj;rw[pC.2];rcases CR i an with h1|h1
            .omega
            .have:=HL0.out J;omega)
           have hb:=HRY.blk;have k1:=cI hb 1;have f1:=fI hb 1;have HPB:=I (show Bj.length+1<=maxLen/\(Bj.length+1)*24<=140737488355328 from by have:=HI.out;have:=iu.out;unfold maxLen;omega);have HW0:=I (show W0.heap.size<=wc.heap.size from HRY.size);have yQ:Hid (CM wc wx.heap.size (AR Aq (Ga tp al j).length cq) (P.getD Bj.length [])):=I (by rw[HPI,<-HPF];exact HP);generalize hql:(Ga tp al j).length=ql at yQ|-;clear hql hb HP;go_wp2_with(at_builtin;refine wpList_append_lies _ rfl (.tmp 107) (.tmp 109) 23 rfl W0.heap.size 66 j0 sN 1 24 Tryz.underlying23 HJE HY0 HY1 yX rfl AQ _ Bj.length Bj rfl (EB HRY.row ((AV _).alloc _)) ⟨wc.heap.size,0,none⟩ 1 1 [AR Aq ql cq] rfl rfl (CQ wc [AR Aq ql cq] 66) (by intro u hu;rw[Bq]at hu;subst hu;rfl) AQ HPB.1 HPB.2 (by have:=HW0.out;simp;omega) _ rfl ?_;intro g5 cap5 w5 hown5 hg5 IL KJ;have HPU:=I (HRZ.push EK.1 EK.2 HU yQ hown5 hg5 IL);have hbz:=(hg5.block zb (by have:=EK.out.2;have:=HW0.out;simp;omega) (λe=>by have:=(CX HRY.out.row zb e.symm).1;have:=EK.2;omega)).trans ((((AV wc).alloc _).block zb (by have:=EK.2;have:=HW0.out;omega)).trans HRY.blk);have k1:=AL hbz 1;have f1:=FD hbz 1;simp only[Iv,Is,I6]at k1;clear hbz hown5 hg5 IL KJ)
           clear k1 f1
           go_wp2
           go_roundw
           case rel=>(repeat apply Exists.intro);first|exact⟨HI.1,by first|rfl|exact Ev i (by have:=HI.out;omega),I ⟨_,Bj++[.slice Aq ql cq],by rw[Gx,iu];rfl,HPU.out⟩⟩|exact⟨⟨HI.1,by first|rfl|exact Ev i (by have:=HI.out;omega),I ⟨_,Bj++[.slice Aq ql cq],by rw[Gx,iu];rfl,HPU.out⟩⟩,rfl⟩
           case measure=>first|exact FO i eI HI.1|exact Gj i eI HI.1 (by have:=HI.out;omega)
       .have hnl:¬(i:tyI)<eI:=J;have hie:i=eI:=J;subst hie;have hb:=HR.blk;have q0:=cI hb 0;have q1:=cI hb 1;have q2:=cI hb 2;have q3:=cI hb 3;clear hb;have hw2:=(gE il.2.2.2).1;have hrs:BR W0 (w+1) #[sN,sN,sN,sN] 27:=(HC.1.block _ (gE il.2.2.1).1).trans il.2.2.1;have hrl:=(gE hrs).1;have hrx:=(HR.fr _ hrl (by have:=HC.out.2.2.1;omega)).trans hrs
        have htz:tb≠zb:=λe=>by
         have h1:=HC.2.2.2.2.1;rw[e,HC.2.2.2.1]at h1;simp at h1
        have hrt:w.heap.size+1≠tb:=by have:=HC.out.2.1;omega
        have hdl:(tl.take 64).length=d3:=Ea;have HFI:=I (λ(wF:tyW) (hk:∀k,k≠w.heap.size+1->hSM wF wx k)=>HR.fin (TH:=⟨7,0,0,0,k,ww,rd,tp⟩) hrl (by have:=HC.out.2.2.1;omega) hrt htz HC.2.2.2.2.1 HC.2.2.2.1 hrs HC.2.2.2.2.2.1 hdl HC.2.2.2.2.2.2 (by rw[iu,UT]) US hk);have z0:=cI hrx 0;have z1:=cI hrx 1;have z2:=cI hrx 2;have z3:=cI hrx 3;have g0:=fI hrx 0;have g1:=fI hrx 1;have g2:=fI hrx 2;have g3:=fI hrx 3;have oS:=I (AT (AT (AT (AT hrx 0 (BG tb 0 1 1)) 1 (AR Ap Bj.length cp)) 2 sN) 3 (AR DA d3 dc));have ZD:=I HR.up;have PP:=I (show w.heap.size<=w.heap.size+1 from N9 _);have HDL:=I hdl;clear hrs hrl hrx htz hrt hdl hw2;go_wp2_with fail;refine Gz (v:= .agg #[BG tb 0 1 1,AR Ap Bj.length cp,sN,AR DA d3 dc]) ?_ rfl ?_
        .exact GV rfl _ _ (w.heap.size+1) 27 _ _ _ rfl oS Tryz.underlying27 rfl Ay
        .obtain⟨A,c,e,hsc⟩:=HFI ((((wx.setCell (aD (w+1) 0) (BG tb 0 1 1)).setCell (aD (w+1) 1) (AR Ap Bj.length cp)).setCell (aD (w+1) 2) sN).setCell (aD (w+1) 3) (AR DA d3 dc)) (λk hk=>(BF _ ⟨w.heap.size+1,3,none⟩ _ k hk).trans ((BF _ ⟨w.heap.size+1,2,none⟩ _ k hk).trans ((BF _ ⟨w.heap.size+1,1,none⟩ _ k hk).trans (BF wx ⟨w.heap.size+1,0,none⟩ _ k hk))));have Sa:=I hsc;clear hsc
         have hE:TC ⟨kind,nn,acts,picks,draws⟩=⟨[⟨7,0,0,0,k,ww,rd,tp⟩],P,[],tl.take 64⟩:=by
          unfold TC IP U3.th Eu;dsimp only;rw[HPE.1,HPE.2.1,sj.1,sj.2.1,sj.2.2,bM.1]
         rw[e];refine⟨⟨some ⟨tb,0,none⟩,1,A,c,none,0,DA,dc⟩,?_,?_,?_⟩
         .unfold Eu;dsimp only;rw[HPE.2.2,bM.1,HDL,UT]
         .rw[hE];rw[e]at Sa;exact Sa
         .repeat(refine C5 (p:=aD (w+1) _) ?_ PP _)
          exact ZD
def YP (l:List D6)(a:tyN)(e:D6):Int:=match OP l a e with
 |none=> -1
 |some k=>k
theorem pW{l:List D6}{k:tyN}{e:D6}(hk:k<l.length)(ha:a<=k)(hm:R6 e (l.getD k En)=true)(hn:∀j,a<=j->j<k->R6 e (l.getD j En)=false):YP l a e=k:=by
 have:OP l a e=some k:=by
  unfold OP;rw[List.find?_range_eq_some];refine⟨by rw[hm,Fi ha];rfl,Dz.2 hk,λj hj=>?_⟩;rcases CR j a with g|g
  .rw[DF J];rfl
  .rw[hn j g hj,bd];rfl
 unfold YP;rw[this]
theorem iS{l:List D6}{e:D6}(hn:∀j,a<=j->j<l.length->R6 e (l.getD j En)=false):YP l a e= -1:=by
 have:OP l a e=none:=by
  unfold OP;rw[List.find?_eq_none];intro j hj;rw[Dz]at hj;rcases CR j a with g|g
  .rw[DF J];simp
  .rw[hn j g hj];simp
 unfold YP;rw[this]
theorem ef(l:List D6)(A:tyA)(cp n:tyN)(e:D6)(w:tyW)(hn:n<=l.length)(hl:l.length<=100000000)(hr:NZ w A l):
  Calls Tryz.prog 36 #[AR A l.length cp,n,.agg #[e.at',e.kind,e.thread,e.call,e.val,e.err,e.YU]] w λe' w'=>e'=BA (O (YP l n e))/\Up w w':=by
 have HR:=I hr;have nI:=I (Zb w e 60);have OH:=I ((AV w).alloc (Y (tK e) 60));have HAT:=I (λk=>pW (l:=l) (a:=n) (k:=k) (e:=e));have jR:=I (iS (l:=l) (a:=n) (e:=e));have HB:=I (λ(x:D6)=>show R6 e x=(decide (x.kind=2)&&decide (x.thread=e.thread)&&decide (x.call=e.call))from rfl);unfold tK at nI OH;obtain⟨W0,hW0⟩:=gX (w.alloc (Y #[e.at',e.kind,e.thread,e.call,e.val,e.err,e.YU] 60));generalize YP l n e=R at*;generalize R6 e=B at*;obtain⟨ea,ek,et,ec,ev,ee,er⟩:=e;dsimp only at nI OH hW0 HB|-;clear hr;go_enter Tryz.func36,Tryz.ntmps36;go_wp2_with fail
 try rw[hW0]
 rw[hW0]at nI OH;clear hW0;have GR:=I (AV W0)
 go_loopw[7] (λx wr=> ∃j:Nat,n<=j/\j<=l.length/\x=O (j:tyI)/\Hid (∀k,n<=k->k<j->B (l.getD k En)=false)/\Hid (Up W0 wr)) (λx _=>l.length-(intOf x).toNat)
 case atStart=>exact⟨n,A9 _,J,rfl,I (λk _ _=>J),GR⟩
 case round=>
  obtain⟨j,hnj,hj,rfl,HL,HV⟩:=hrel;by_cases h0:j<l.length
  .obtain⟨b,off,eA,hx⟩:=(HR.up (OH.trans HV)) j h0;have hii:(j:tyI)<l.length:=J;have hi0:(0:tyI)<=j:=J;have hib:(j:tyI)<=100000000:=J;have HJ:=I (And.intro h0 hnj);rw[eA];obtain⟨d0,d1,d2,d3,d4,d5,d6⟩:=nI.up HV;dsimp only at d0 d1 d2 d3 d4 d5 d6;simp only[Dw]at d0 d1 d2 d3 d4 d5 d6;have Yv:=I (λ(m:tyN)=>OH.trans (HV.trans ((AV wr).drewN m)));have ul:=I (λ(m:tyN)=>HV.trans ((AV wr).drewN m));have bT:=I (λh=>HAT j h0 hnj h HL);have P2:=I (λ(h:B (l.getD j En)=false) k h1 (h2:k<j+1)=>(CR k j).elim (HL k h1) λg=>by rw[show k=j by omega];exact h);have HBJ:=I (HB (l.getD j En));generalize l.getD j En=a at*;obtain⟨x0,x1,x2,x3,x4,x5,x6⟩:=a;obtain⟨c0,c1,c2,c3,c4,c5,c6⟩:=hx;dsimp only at c0 c1 c2 c3 c4 c5 c6 HBJ;clear hj HV;by_cases q1:x1=2
   .by_cases q2:x2=et
    .by_cases q3:x3=ec
     .subst q1;subst q2;subst q3;have HE:=I (bT (by rw[HBJ];simp));go_wp2_with fail;go_quiet(fail)
      go_wp2
      go_ret;exact⟨by rw[HE];rfl,Yv _⟩
     .subst q1;subst q2;have g3:(x3==ec)=false:=by simpa using q3
      have jF:=I (P2 (by rw[HBJ,DF q3,bd]));go_wp2_with fail;go_quiet(fail);rename_i nq
      go_wp2
      go_roundw
      case rel=>exact⟨j+1,by have:=HJ.out;omega,by have:=HJ.out;omega,by first|rfl|go_num,jF,I (ul nq)⟩
      case measure=>simp[intOf]<;>omega
    .subst q1;have g2:(x2==et)=false:=by simpa using q2
     have jF:=I (P2 (by rw[HBJ,DF q2,bd,jr]));go_wp2_with fail;go_quiet(fail);rename_i nq
     go_wp2
     go_roundw
     case rel=>exact⟨j+1,by have:=HJ.out;omega,by have:=HJ.out;omega,by first|rfl|go_num,jF,I (ul nq)⟩
     case measure=>simp[intOf]<;>omega
   .have g1:(x1==2)=false:=by simpa using q1
    have jF:=I (P2 (by rw[HBJ,DF q1,jr,jr]));go_wp2_with fail;go_quiet(fail);rename_i nq
    go_wp2
    go_roundw
    case rel=>exact⟨j+1,by have:=HJ.out;omega,by have:=HJ.out;omega,by first|rfl|go_num,jF,I (ul nq)⟩
    case measure=>simp[intOf]<;>omega
  .obtain rfl:j=l.length:=J;have HE:=I (jR HL);have Yv:=I (OH.trans HV);clear HV h0
   go_wp2
   go_ret;exact⟨by rw[HE];rfl,Yv⟩
theorem IS{k:tyI}{n m:tyN}{d:tyL}{f:Int->Int}(h:∀j,j<m->(Gs (DZ k n) (j:tyN)).kind=1/\(Gs (DZ k n) (j:tyN)).top=f j)(c:tyI)(h0:0<=c)(h1:c<m):RP (jM k n d) c (f c):=by
 obtain⟨j,rfl⟩:∃j:Nat,c=j:=⟨c.toNat,J⟩;exact h j J
theorem AAu{L:List C6}{ix:Nat->Nat×Nat}{b:tyN}(hi:∀j k,j<L.length->k<L.length->ix j=ix k->j=k)(hb:∀k,k<L.length->(ix k).1<a/\(ix k).2<b):L.length<=a*b:=by
 have key:∀n,n<=L.length->∀m (f:Nat->Nat),(∀j,j<n->f j<m)->(∀j k,j<n->k<n->f j=f k->j=k)->n<=m:=by
  intro n _
  induction n with
  |zero=>intro m f _ _;exact DV _
  |succ n ih=>
   intro m f h1 h2;cases m with
   |zero=>exact absurd (h1 0 J) J
   |succ m=>
    have:=ih J m (λj=>if f j=m then f n else f j) (λj hj=>by
     show(if f j=m then f n else f j)<m;have e1:=h1 j J;have e2:=h1 n J;split
     .rename_i e;have:f n≠m:=λq=>by have:=h2 j n J J (e.trans q.symm);omega
      omega
     .omega) (λj k hj hk e=>by
     have e:(if f j=m then f n else f j)=if f k=m then f n else f k:=e
     split at e<;>split at e
     .rename_i e1 e2;exact h2 j k J J (e1.trans e2.symm)
     .have:=h2 n k J J e;omega
     .have:=h2 j n J J e;omega
     .exact h2 j k J J e)
    omega
 refine key L.length (A9 _) (a*b) (λk=>(ix k).1*b+(ix k).2) (λj hj=>?_) (λj k hj hk e=>hi j k hj hk ?_)
 .obtain⟨h1,h2⟩:=hb j hj;have:=MO b (show(ix j).1+1<=a from h1);rw[Nw,MZ]at this;show(ix j).1*b+(ix j).2<a*b;omega
 .obtain⟨h1,h2⟩:=hb j hj;obtain⟨h3,h4⟩:=hb k hk;have e:(ix j).1*b+(ix j).2=(ix k).1*b+(ix k).2:=e
  have e1:(ix j).1=(ix k).1:=by
   rcases Fq (ix j).1 (ix k).1 with g|g|g
   .have:=MO b (show(ix j).1+1<=(ix k).1 from g);rw[Nw,MZ]at this;omega
   .exact g
   .have:=MO b (show(ix k).1+1<=(ix j).1 from g);rw[Nw,MZ]at this;omega
  rw[e1]at e;exact ey e1 J
theorem getD_in{α:Type}(l:List α){i:tyN}(h:i<l.length)(d:α):l.getD i d∈l:=by
 rw[gD,gG h];exact KD h
theorem sf2(n:tyN):∀j,j<1->(Gs (DZ 2 n) (j:tyN)).kind=1/\(Gs (DZ 2 n) (j:tyN)).top=1:=show∀j,j<1->(Gs [⟨1,1,1⟩] (j:tyN)).kind=1/\(Gs [⟨1,1,1⟩] (j:tyN)).top=1 from SU
theorem sf3(n:tyN):∀j,j<4->(Gs (DZ 3 n) (j:tyN)).kind=1/\(Gs (DZ 3 n) (j:tyN)).top=1:=show∀j,j<4->(Gs [⟨4,1,1⟩] (j:tyN)).kind=1/\(Gs [⟨4,1,1⟩] (j:tyN)).top=1 from SU
theorem sf4(n:tyN):∀j,j<3->(Gs (DZ 4 n) (j:tyN)).kind=1/\(Gs (DZ 4 n) (j:tyN)).top=1:=show∀j,j<3->(Gs [⟨3,1,1⟩] (j:tyN)).kind=1/\(Gs [⟨3,1,1⟩] (j:tyN)).top=1 from SU
theorem sf5(n:tyN):∀j,j<16->(Gs (DZ 5 n) (j:tyN)).kind=1/\(Gs (DZ 5 n) (j:tyN)).top=if(j:tyI)<0+4 then Bo else 1:=show∀j,j<16->(Gs IU (j:tyN)).kind=1/\(Gs IU (j:tyN)).top=if(j:tyI)<0+4 then Bo else 1 from SU
theorem AEn:∀j,j<16->(Gs (DZ 6 2) (j:tyN)).kind=1/\(Gs (DZ 6 2) (j:tyN)).top=if((j:tyI)-0)%16<4 then Bo else 1:=SU
theorem AE1:∀j,j<64->(Gs (DZ 6 3) (j:tyN)).kind=1/\(Gs (DZ 6 3) (j:tyN)).top=if((j:tyI)-0)%16<4 then Bo else 1:=SU
theorem AEm:∀j,j<32->(Gs (DZ 7 2) (j:tyN)).kind=1/\(Gs (DZ 7 2) (j:tyN)).top=if((j:tyI)-0)%16<4 then Bo else 1:=SU
theorem AEw:∀j,j<192->(Gs (DZ 7 3) (j:tyN)).kind=1/\(Gs (DZ 7 3) (j:tyN)).top=if((j:tyI)-0)%16<4 then Bo else 1:=SU
variable {r:U3}{sc:MN}{H:List Au}{C:Nat->List GC}
theorem aA(hS:VL r sc){t i:tyN}(h:(AN sc.AH t i).1=16):0<=(AN sc.AH t i).2.2/\(AN sc.AH t i).2.2<=Ez r.k:=by
 have hlt:i<(sc.AH.getD t []).length:=by
  apply TR;intro q;unfold AN at h;rw[gD,VA J]at h;exact absurd h AQ
 rcases(hS.ops t _ (getD_in _ hlt (0,0,0))).1 with e|⟨_,e⟩
 .have:(AN sc.AH t i).1=15:=e;rw[h]at this;exact absurd this AQ
 .exact e
theorem ma(hS:VL r sc)(h3:r.k<4)(h:CC (jM r.k r.n sc.draws) sc.AH H C)(hA:Sx (jM r.k r.n sc.draws) sc.AH C):Ze sc.AH C 0:=by
 obtain⟨k,ww,rd,tp,n,hk,hn⟩:=r;have hv:=λt i=>aA (t:=t) (i:=i) hS
 have hlen:sc.AH.length=n:=hS.len;have h3:k<4:=h3;have hk2:=hk;rcases hk2 with⟨rfl,-⟩|⟨rfl,-⟩|⟨rfl,-⟩|⟨rfl,-⟩|⟨rfl,-⟩|⟨rfl,-⟩
 .exact Uo (b:=0) (lo:=0) h hA D7 AQ J (λt c=>rfl) (IS (m:=1) (f:=λ_=>1) (sf2 n) 0 AQ AQ) λt i q=>by
   have h8:=hv t i q;have h9:(AN sc.AH t i).2.2<=1:=h8.2;omega
 .exact Wk (b:=0) (lo:=0) (top:=3) h hA D7 AQ J (λt c=>rfl) (λj hj=>IS (m:=4) (f:=λ_=>1) (sf3 n) (0+(j:tyI)) J J) λt i q=>hv t i q
 all_goals exact absurd h3 AQ
theorem lI(hS:VL r sc)(h3:4<=r.k)(h:CC (jM r.k r.n sc.draws) sc.AH H C)(hF:Si H)(hA:Sx (jM r.k r.n sc.draws) sc.AH C)(FU:∀A,A∈H->A.now<=4000)(hl:∀t,(sc.AH.getD t []).length<=500000):∃tag Gw,Vj sc.AH C tag Gw:=by
 obtain⟨k,ww,rd,tp,n,hk,hn⟩:=r;have hv:=λt i=>aA (t:=t) (i:=i) hS
 have hlen:sc.AH.length=n:=hS.len;have h3:4<=k:=h3;have hn2:n=2\/n=3:=hn;have hk2:=hk;rcases hk2 with⟨rfl,-⟩|⟨rfl,-⟩|⟨rfl,-⟩|⟨rfl,-⟩|⟨rfl,-⟩|⟨rfl,-⟩
 iterate 2 exact absurd h3 AQ
 .exact aZ (b:=0) (lo:=0) (w:=0) (r:=1) h hA D7 AQ J J AQ (λt c=>rfl) (IS (m:=3) (f:=λ_=>1) (sf4 n)) λt i q=>by
   have h8:=hv t i q;have h9:(AN sc.AH t i).2.2<=1:=h8.2;omega
 .exact az (b:=0) (lo:=0) (w:=0) (r:=1) h hA D7 AQ J J AQ (λt c=>rfl) (IS (m:=16) (f:=λc=>if c<0+4 then Bo else 1) (sf5 n)) λt i q=>by
   have h8:=hv t i q;have h9:(AN sc.AH t i).2.2<=3:=h8.2;unfold Bo;omega
 .rcases hn2 with rfl|rfl
  .exact R8 (b:=0) (lo:=0) (top:=3) (w:=0) h hA D7 AQ hlen AQ AQ AQ (λt c=>rfl) (IS (m:=16) (f:=λc=>if(c-0)%16<4 then Bo else 1) AEn) (λt i q=>hv t i q) hl
  .exact R8 (b:=0) (lo:=0) (top:=3) (w:=0) h hA D7 AQ hlen AQ AQ AQ (λt c=>rfl) (IS (m:=64) (f:=λc=>if(c-0)%16<4 then Bo else 1) AE1) (λt i q=>hv t i q) hl
 .rcases hn2 with rfl|rfl
  .exact UM (b:=0) (lo:=0) (top:=3) h hF FU D7 AQ hlen AQ AQ (λt c=>rfl) (IS (m:=32) (f:=λc=>if(c-0)%16<4 then Bo else 1) AEm) (λt i q=>hv t i q) hl
  .exact UM (b:=0) (lo:=0) (top:=3) h hF FU D7 AQ hlen AQ AQ (λt c=>rfl) (IS (m:=192) (f:=λc=>if(c-0)%16<4 then Bo else 1) AEw) (λt i q=>hv t i q) hl
end
end Go.Proofs.YtpodgcpkccpnfaaGreat
