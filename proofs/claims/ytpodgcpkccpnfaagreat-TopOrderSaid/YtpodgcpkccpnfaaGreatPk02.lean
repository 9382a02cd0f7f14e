import Derived.Deep.RegionLaw
import Derived.ScopeJumps
import Derived.BigQuiet
import Derived.Test.YtpodgcpkccpnfaaGreatPk01
set_option linter.unusedVariables false
set_option linter.unusedSimpArgs false
set_option maxRecDepth 20000
set_option maxHeartbeats 40000000
namespace Go.Proofs.YtpodgcpkccpnfaaGreat
variable{e:Ending}{k t:Int}{B g:Nat}{s s':TS}{W w w' w0 w1:World}
section
open Go.RowKit
theorem dF:(Tryz.prog.info? 111).map (λi=>(i.zero,i.size,i.bytes))=some (some (.agg #[(),(),()]),3,24):=Ay
theorem lC:(Tryz.prog.info? 168).map (λi=>(i.zero,i.size,i.bytes))=some (some (.agg #[(),()]),2,16):=Ay
theorem QS:(Tryz.prog.info? 3).map (λi=>(i.zero,i.size,i.bytes))=some (some (.int .i64 0),1,8):=Ay
def JL (g:tyN):List PanicEntry:=[{v:= .iface 198 (.agg #[.pointer (some (aD g 0))]),recovered:=false}]
def AX (w:tyW)(g B:tyN)(s:TS):Prop:=A5 w g B 1 s/\s.acc.length<=s.ans.length
theorem AX.up(h:AX w g B s)(hb:Up w w'):AX w' g B s:=⟨h.1.up hb,h.2⟩
def AP {α:Type}(enc:α->Value)(g B:tyN)(w:tyW)(r:Option α×TS)(e:Ending)(w':tyW):Prop:=
 (match r.1 with
  |some v=>e=BA (enc v)/\AX w' g B r.2
  |none=>e= .panicked (JL g)/\A5 w' g B 2 r.2)/\TK g B w w'
theorem AP.some{α:Type}{enc:α->Value}{r:Option α×TS}{v:α}(hr:r=(some v,s'))(h:e=BA (enc v)/\AX w' g B s'/\TK g B w w'):AP enc g B w r e w':=by
 subst hr;exact⟨⟨h.1,h.2.1⟩,h.2.2⟩
theorem AP.none{α:Type}{enc:α->Value}{r:Option α×TS}(hr:r=(.none,s'))(h:e= .panicked (JL g)/\A5 w' g B 2 s'/\TK g B w w'):AP enc g B w r e w':=by
 subst hr;exact⟨⟨h.1,h.2.1⟩,h.2.2⟩
theorem AP.Fa{α:Type}{enc:α->Value}{r:Option α×TS}{v:α}(hr:r=(.some v,s'))(h:AP enc g B w r e w'):e=BA (enc v)/\AX w' g B s'/\TK g B w w':=by
 subst hr;exact⟨h.1.1,h.1.2,h.2⟩
theorem AP.Fd{α:Type}{enc:α->Value}{r:Option α×TS}(hr:r=(.none,s'))(h:AP enc g B w r e w'):e= .panicked (JL g)/\A5 w' g B 2 s'/\TK g B w w':=by
 subst hr;exact⟨h.1.1,h.1.2,h.2⟩
theorem pd(a:Int×Int×Int)(l:List (Int×Int×Int)):DP (l++[a])=DP l++[.int .i64 a.1,.int .i64 a.2.1,.int .i64 a.2.2]:=by rw[Su];rfl
theorem Rh{va:tyV}{a:Int×Int×Int}{g1 cap:tyN}(hU:Up w0 W)(h:A5 w0 g B 1 s)(hla:s.acc.length<=s.ans.length)(S2:V w0 g 3 va)(hown:w0.ownsRow B 111 3 va s.acc.length (DP s.acc))
  (hown1:w1.ownsRow B 111 3 (BG g1 0 (s.acc.length+1) cap) (s.acc.length+1) (DP s.acc++[.int .i64 a.1,.int .i64 a.2.1,.int .i64 a.2.2])) (hg:W.grownBy w1 va.ownBlock) (hat:va.ownBlock=some g1\/g1=W.heap.size):
  V w1 g 3 va/\w1.frozen? (aD g 3)=false/\A5 (w1.setCell (aD g 3) (BG g1 0 (s.acc.length+1) cap)) g B 1 (s.asked a)/\TK g B w0 (w1.setCell (aD g 3) (BG g1 0 (s.acc.length+1) cap)):=by
 have h2:=h.up hU;have hown2:=EB hown hU;have hlow:hSM W w1 g:=(hg.block g (B5 h2.gB h2.sz) (λe=>by have:=DS hown2 g e.symm;have:=h.gB;omega)).symm;have S3:V W g 3 va:=(hU.cell (p:=aD g 3) (B5 h.gB h.sz)).trans S2;refine⟨(Ak hlow.symm).trans S3,(Fm hlow.symm).trans (h2.fz 3),h2.AAS a S3 hla hown2 hg (by rw[pd];exact hown1),?_⟩
 exact(TK.Bp hU).pushed h.gB (B5 h2.gB h2.sz) hown2 (.inr (.inl rfl)) hg (.inr (.inl rfl)) S3 λk e=>by
  simp only[Value.ownBlock,Dt]at e;subst e;exact hat.imp id λq=>Jq q.symm
theorem tT(w:tyW)(AE:Obj)(news:List Value)(e:TypeId):∀j u,news[j]?=some u->((w.alloc AE).alloc (Y news.toArray e)).drew.cell? ((⟨w.heap.size+1,0,none⟩:Addr).add j)=some u:=by
 intro j u h;have:=CQ (w.alloc AE) news e j u h;rw[Cy]at this;exact this
theorem vp(g B:tyN)(a0 a1 a2:tyI)(s:TS)(w:tyW)(h:A5 w g B 1 s)(hlt:s.acc.length<s.ans.length):
  Calls Tryz.prog 249 #[pT g,.agg #[a0,a1,a2]] w λe w'=>e=BA s.told/\A5 w' g B 1 (s.asked (a0,a1,a2))/\TK g B w w':=by
 obtain⟨va,S2,hown⟩:=h.acc;obtain⟨Aa,ca,rfl,hac,_⟩:=Af hown;have c0:=h.c0;have hgs:=h.gs;have hlb:=h.lb;have H:=I h;have HOWN:=I hown;have yr:=I (show s.acc.length<=s.ans.length by omega);have AAz:=I (show s.told=s.ans.getD s.acc.length 0 from rfl);have HX:=I (λ(W w1:tyW) (g1 cap:tyN) (hU:Up w W)=>Rh (W:=W) (w1:=w1) (g1:=g1) (cap:=cap) (a:=(a0,a1,a2)) hU h yr S2 hown);have hf3:=h.fz 3;obtain⟨i0,hi,hz0,hz1,hz2⟩:=info_parts dF;have HI:=I hi;have HZ0:=I hz0;have HZ1:=I hz1;have HZ2:=I hz2;obtain⟨m,hm⟩:=gX s.ans.length;obtain⟨n,hn⟩:=gX s.acc.length;rw[hn]at S2 hac HOWN hlt HX;rw[hm]at hlb hlt;have HN:=I hn;have HM:=I hm;clear hown h hi hz0 hz1 hz2 hn hm;go_enter Tryz.func249,Tryz.ntmps249;go_wp2_with fail
 go_region_law (refine step_append_lies _ rfl (.tmp 32) (.tmp 34) 158 rfl B 111 i0 (.agg #[(),(),()]) 3 24 Tryz.underlying158 HI HZ0 HZ1 HZ2 rfl AQ _ n (DP s.acc) rfl (EB HOWN (((AV w).alloc _).alloc _).drew) ⟨w.heap.size+1,0,none⟩ 1 1 [a0,a1,a2] rfl rfl (tT w _ _ _) (by simp[Value.oneCell']) AQ (by unfold maxLen;omega) J (by have:=H.out.sz;simp;omega) _ rfl ?_;intro g1 cap w1 hown1 hgrow hat hlt1;obtain⟨hc3,iZ,HT0,mo⟩:=HX _ _ _ _ (((AV w).alloc _).alloc _).drew hown1 hgrow hat;have HT:=I HT0;have HK:=I mo;clear HT0 mo hown1 hgrow hat hlt1)
 all_goals
  generalize w1.setCell (aD g 3) (BG g1 0 (n+1) cap)=W1 at*;obtain⟨A1,d1,hc1,hr1,_⟩:=HT.ans;simp only[TS.asked]at hc1 hr1;rw[HM]at hc1 hr1;obtain⟨b,off,rfl,hcell⟩:=hr1 n hlt;unfold Bl at hcell;have hge:¬(m:tyI)<=(n:tyI):=J;have HTD:=AAz.out;rw[HN]at HTD;rw[<-HTD]at hcell;have HTD2:=I HTD;clear hc3 iZ hr1 S2 HTD hf3
  go_wp2
  go_ret;exact⟨rfl,HT,HK⟩
theorem mP(g B:tyN)(a0 a1 a2:tyI)(s:TS)(w:tyW)(h:A5 w g B 1 s)(hlt:s.acc.length=s.ans.length):
  Calls Tryz.prog 249 #[pT g,.agg #[a0,a1,a2]] w λe w'=>e= .panicked (JL g)/\A5 w' g B 2 (s.asked (a0,a1,a2))/\TK g B w w':=by
 obtain⟨va,S2,hown⟩:=h.acc;obtain⟨Aa,ca,rfl,hac,_⟩:=Af hown;have c0:=h.c0;have hgs:=h.gs;have hlb:=h.lb;have H:=I h;have HOWN:=I hown;have yr:=I (show s.acc.length<=s.ans.length by omega);have HX:=I (λ(W w1:tyW) (g1 cap:tyN) (hU:Up w W)=>Rh (W:=W) (w1:=w1) (g1:=g1) (cap:=cap) (a:=(a0,a1,a2)) hU h yr S2 hown);have hf3:=h.fz 3;obtain⟨i0,hi,hz0,hz1,hz2⟩:=info_parts dF;have HI:=I hi;have HZ0:=I hz0;have HZ1:=I hz1;have HZ2:=I hz2;have Sa:=I (show JL g=[{v:= .iface 198 (.agg #[.pointer (some (aD g 0))]),recovered:=false}]from rfl);obtain⟨n,hn⟩:=gX s.ans.length;rw[hn]at hlt hlb;rw[hlt]at S2 hac HOWN HX;have HN:=I hlt;have HM:=I hn;clear hown h hi hz0 hz1 hz2 hn hlt;go_enter Tryz.func249,Tryz.ntmps249;go_wp2_with fail
 go_region_law (refine step_append_lies _ rfl (.tmp 32) (.tmp 34) 158 rfl B 111 i0 (.agg #[(),(),()]) 3 24 Tryz.underlying158 HI HZ0 HZ1 HZ2 rfl AQ _ n (DP s.acc) rfl (EB HOWN (((AV w).alloc _).alloc _).drew) ⟨w.heap.size+1,0,none⟩ 1 1 [a0,a1,a2] rfl rfl (tT w _ _ _) (by simp[Value.oneCell']) AQ (by unfold maxLen;omega) J (by have:=H.out.sz;simp;omega) _ rfl ?_;intro g1 cap w1 hown1 hgrow hat hlt1;obtain⟨hc3,iZ,HT0,mo⟩:=HX _ _ _ _ (((AV w).alloc _).alloc _).drew hown1 hgrow hat;have HT:=I HT0;have HK:=I mo;clear HT0 mo hown1 hgrow hat hlt1)
 all_goals
  generalize w1.setCell (aD g 3) (BG g1 0 (n+1) cap)=W1 at*;obtain⟨A1,d1,hc1,-,_⟩:=HT.ans;simp only[TS.asked]at hc1;rw[HM]at hc1;have hf0:=HT.fz 0;have hc0:=HT.c0;have HT2:=I (HT.state 2);have Kq:=I (HK.setCell (j:=0) (O 2));clear hc3 iZ S2 hf3 HT HK
  go_wp2
  exact⟨rfl,by rw[Sa],HT2,Kq⟩
def YQ (a:Int×Int×Int)(s:TS):Option Int×TS:=(if s.acc.length<s.ans.length then some s.told else none,s.asked a)
def encI:Int->Value:= .int .i64
def Mq:Unit->Value:=λ_=> .tuple #[]
theorem QO(a:Int×Int×Int)(s:TS)(h:s.acc.length<s.ans.length):YQ a s=(some s.told,s.asked a):=by unfold YQ;rw[AK h]
theorem Ll(a:Int×Int×Int)(s:TS)(h:¬s.acc.length<s.ans.length):YQ a s=(none,s.asked a):=by unfold YQ;rw[AI h]
theorem U4(g B:tyN)(a:Int×Int×Int)(s:TS)(w:tyW)(h:AX w g B s):
  Calls Tryz.prog 249 #[pT g,.agg #[a.1,a.2.1,a.2.2]] w (AP encI g B w (YQ a s)):=by
 by_cases hlt:s.acc.length<s.ans.length
 .refine(vp g B _ _ _ s w h.1 hlt).mono ?_;rintro e w' ⟨h1,h2,h3⟩;exact AP.some (QO a s hlt) ⟨h1,⟨h2,by simp[TS.asked];omega⟩,h3⟩
 .refine(mP g B _ _ _ s w h.1 (by have:=h.2;omega)).mono ?_;rintro e w' ⟨h1,h2,h3⟩;exact AP.none (Ll a s hlt) ⟨h1,h2,h3⟩
theorem mj(g B:tyN)(c:tyI)(s:TS)(w:tyW)(h:AX w g B s):
  Calls Tryz.prog 214 #[pT g,c] w (AP encI g B w (YQ (1,c,0) s)):=by
 have HA:=I (U4 g B (1,c,0) s w h);have V6:=I (QO (1,c,0) s);have HST:=I (Ll (1,c,0) s);by_cases hlt:s.acc.length<s.ans.length
 .have HR:=I (QO (1,c,0) s hlt);clear h;go_enter Tryz.func214,Tryz.ntmps214;go_wp2_with fail;refine HA.mono ?_;intro e w' q;obtain⟨rfl,h2,h3⟩:=q.Fa HR;have H2:=I h2;have H3:=I h3;clear q h2 h3;unfold encI
  go_wp2
  go_ret;exact AP.some HR ⟨rfl,H2,H3⟩
 .have HR:=I (Ll (1,c,0) s hlt);clear h;go_enter Tryz.func214,Tryz.ntmps214;go_wp2_with fail;refine HA.mono ?_;intro e w' q;obtain⟨rfl,h2,h3⟩:=q.Fd HR;have H2:=I h2;have H3:=I h3;clear q h2 h3
  go_wp2
  exact⟨rfl,AP.none HR ⟨rfl,H2,H3⟩⟩
theorem YB(g B:tyN)(c v:tyI)(s:TS)(w:tyW)(h:AX w g B s)(hlt:s.acc.length<s.ans.length):
  Calls Tryz.prog 212 #[pT g,c,v] w λe w'=>e=BA (.tuple #[])/\AX w' g B (s.asked (2,c,v))/\TK g B w w':=by
 have HA:=I (U4 g B (2,c,v) s w h);have HR:=I (QO (2,c,v) s hlt);clear h;go_enter Tryz.func212,Tryz.ntmps212;go_wp2_with fail;refine HA.mono ?_;intro e w' q;obtain⟨rfl,h2,h3⟩:=q.Fa HR;have H2:=I h2;have H3:=I h3;clear q h2 h3;go_wp2_with fail
 go_end0
 exact⟨rfl,H2,H3⟩
theorem Rl(g B:tyN)(c v:tyI)(s:TS)(w:tyW)(h:AX w g B s)(hlt:¬s.acc.length<s.ans.length):
  Calls Tryz.prog 212 #[pT g,c,v] w λe w'=>e= .panicked (JL g)/\A5 w' g B 2 (s.asked (2,c,v))/\TK g B w w':=by
 have HA:=I (U4 g B (2,c,v) s w h);have HR:=I (Ll (2,c,v) s hlt);clear h;go_enter Tryz.func212,Tryz.ntmps212;go_wp2_with fail;refine HA.mono ?_;intro e w' q;obtain⟨rfl,h2,h3⟩:=q.Fd HR;have H2:=I h2;have H3:=I h3;clear q h2 h3
 go_wp2
 exact⟨rfl,rfl,H2,H3⟩
theorem Vd(g B:tyN)(i:tyI)(s:TS)(w:tyW)(h:AX w g B s):
  Calls Tryz.prog 205 #[pT g,i] w λe w'=>e=BA (O (s.get i))/\w'=w:=by
 obtain⟨v,hcv,hown⟩:=h.1.loc;obtain⟨A,c,rfl,hac,hcm⟩:=Af hown;have c0:=h.1.c0;have hll:=h.1.ll;by_cases hr:i<0\/(s.loc.length:tyI)<=i
 .have HG:=I (show s.get i=0 by unfold TS.get;rw[AK hr]);clear h hown;generalize s.loc.length=n at*;rcases hr with h1|h1
  .go_enter Tryz.func205,Tryz.ntmps205
   go_wp2
   go_ret;exact⟨by rw[HG];rfl,rfl⟩
  .have h2:¬i<0:=J;go_enter Tryz.func205,Tryz.ntmps205
   go_wp2
   go_ret;exact⟨by rw[HG];rfl,rfl⟩
 .have HG:=I (show s.get i=s.loc.getD i.toNat 0 by unfold TS.get;rw[AI hr]);have h1:¬i<0:=J;obtain⟨k,rfl⟩:∃k:Nat,i=k:=⟨i.toNat,J⟩;have hk:k<s.loc.length:=J;obtain⟨A',c',hA,hrow,_⟩:=Lq (f:=Bl s.loc) hown (λk hk=>Er hk);injection hA with hA1 hA2 hA3
  subst hA1;obtain⟨b,off,rfl,hcell⟩:=hrow k hk;unfold Bl at hcell;rw[Gl]at HG;have HG2:=I HG.symm;rw[HG2]at hcell;have h2:¬((s.loc.length:tyI)<=(k:tyI)):=J;clear h hown hrow hr hk;generalize s.loc.length=n at*;go_enter Tryz.func205,Tryz.ntmps205
  go_wp2
  go_ret;exact⟨rfl,rfl⟩
theorem lK(a:Int×Int)(l:List (Int×Int)):Dl (l++[a])=Dl l++[.int .i64 a.1,.int .i64 a.2]:=by rw[Sn];rfl
theorem WS{va:tyV}{k0:tyI}{g1 cap:tyN}(hU:Up w0 W)(h:AX w0 g B s)(S2:V w0 g 4 va)(hown:w0.ownsRow B 168 2 va s.Bi.length (Dl s.Bi))
  (hown1:w1.ownsRow B 168 2 (BG g1 0 (s.Bi.length+1) cap) (s.Bi.length+1) (Dl s.Bi++[.int .i64 k0,.int .i64 (s.acc.length:tyI)])) (hg:W.grownBy w1 va.ownBlock) (hat:va.ownBlock=some g1\/g1=W.heap.size):
  V w1 g 4 va/\w1.frozen? (aD g 4)=false/\AX (w1.setCell (aD g 4) (BG g1 0 (s.Bi.length+1) cap)) g B (s.DY k0)/\TK g B w0 (w1.setCell (aD g 4) (BG g1 0 (s.Bi.length+1) cap)):=by
 have h2:=h.up hU;have hown2:=EB hown hU;have hlow:hSM W w1 g:=(hg.block g h2.1.gs (λe=>by have:=DS hown2 g e.symm;have:=h.1.gB;omega)).symm;have S3:V W g 4 va:=(hU.cell (p:=aD g 4) h.1.gs).trans S2;refine⟨(Ak hlow.symm).trans S3,(Fm hlow.symm).trans (h2.1.fz 4),⟨h2.1.AAY k0 S3 hown2 hg (by rw[lK];exact hown1),h.2⟩,?_⟩
 exact(TK.Bp hU).pushed h.1.gB h2.1.gs hown2 (.inr (.inr rfl)) hg (.inr (.inr rfl)) S3 λk e=>by
  simp only[Value.ownBlock,Dt]at e;subst e;exact hat.imp id λq=>Jq q.symm
theorem cR(w:tyW)(news:List Value)(e:TypeId):∀j u,news[j]?=some u->(w.alloc (Y news.toArray e)).drew.cell? ((⟨w.heap.size,0,none⟩:Addr).add j)=some u:=λj u h=>CQ w news e j u h
theorem kT(g B:tyN)(k0:tyI)(s:TS)(w:tyW)(h:AX w g B s)(hb:s.Bi.length<1000000):
  Calls Tryz.prog 236 #[pT g,k0] w λe w'=>e=BA (.tuple #[])/\AX w' g B (s.DY k0)/\TK g B w w':=by
 obtain⟨va,S2,hown⟩:=h.1.Bi;obtain⟨Aa,ca,rfl,hac,_⟩:=Af hown;obtain⟨vb,hcb,tx⟩:=h.1.acc;obtain⟨Ab,cb,rfl,hbc,_⟩:=Af tx;have c0:=h.1.c0;have hgs:=h.1.gs;have HS:=I h.1.sz;have HOWN:=I hown;have HX:=I (λ(W w1:tyW) (g1 cap:tyN) (hU:Up w W)=>WS (W:=W) (w1:=w1) (g1:=g1) (cap:=cap) (k0:=k0) hU h S2 hown);have hf3:=h.1.fz 4;obtain⟨i0,hi,hz0,hz1,hz2⟩:=info_parts lC;have HI:=I hi;have HZ0:=I hz0;have HZ1:=I hz1;have HZ2:=I hz2;obtain⟨n,hn⟩:=gX s.Bi.length;obtain⟨m,hm⟩:=gX s.acc.length;rw[hn]at S2 hac HOWN HX hb;rw[hm]at hcb HX;clear hown h hi hz0 hz1 hz2 hn hm tx;go_enter Tryz.func236,Tryz.ntmps236;go_wp2_with fail
 go_region_law (refine step_append_lies _ rfl (.tmp 17) (.tmp 25) 159 rfl B 168 i0 (.agg #[(),()]) 2 16 Tryz.underlying159 HI HZ0 HZ1 HZ2 rfl AQ _ n (Dl s.Bi) rfl (EB HOWN ((AV w).alloc _).drew) ⟨w.heap.size,0,none⟩ 1 1 [k0,O (m:tyI)] rfl rfl (cR w _ _) (by simp[Value.oneCell']) AQ (by unfold maxLen;omega) J (by have:=HS.out;simp;omega) _ rfl ?_;intro g1 cap w1 hown1 hgrow hat hlt1;obtain⟨hc3,iZ,HT0,mo⟩:=HX _ _ _ _ ((AV w).alloc _).drew hown1 hgrow hat;have HT:=I HT0;have HK:=I mo;clear HT0 mo hown1 hgrow hat hlt1)
 all_goals
  go_end0
  exact⟨rfl,HT,HK⟩
theorem am{A:tyA}{c:tyN}{k:tyN}{v1:tyV}(hU:Up w0 W)(h:AX w0 g B s)(S2:V w0 g 2 (AR A s.loc.length c))(hown:w0.ownsRow B 3 1 (AR A s.loc.length c) s.loc.length (Aj s.loc))(hk:s.loc.length+k<=32768)
  (hown1:w1.ownsRow B 3 1 v1 (s.loc.length+k) (Aj s.loc++List.replicate k (.int .i64 0))) (hg:W.grownBy w1 (Value.slice A s.loc.length c).ownBlock) (hor:∀q,v1.ownBlock=some q->(Value.slice A s.loc.length c).ownBlock=some q\/W.heap.size<=q):
  V w1 g 2 (AR A s.loc.length c)/\w1.frozen? (aD g 2)=false/\AX (w1.setCell (aD g 2) v1) g B {s with loc:=s.loc++List.replicate k 0}/\TK g B w0 (w1.setCell (aD g 2) v1):=by
 have h2:=h.up hU;have hown2:=EB hown hU;have hlow:hSM W w1 g:=(hg.block g h2.1.gs (λe=>by have:=DS hown2 g e.symm;have:=h.1.gB;omega)).symm;have S3:V W g 2 (AR A s.loc.length c):=(hU.cell (p:=aD g 2) h.1.gs).trans S2;refine⟨(Ak hlow.symm).trans S3,(Fm hlow.symm).trans (h2.1.fz 2),⟨?_,h.2⟩,(TK.Bp hU).pushed h.1.gB h2.1.gs hown2 (.inl rfl) hg (.inl rfl) S3 hor⟩;refine h2.1.AEp (s.loc++List.replicate k 0) (by simp;omega) ?_ hg.size ?_
 .intro q hq hno;refine hg.block q hq (λe=>?_);rcases hown2.2 with⟨hv,_⟩|⟨g',cap,cur,hv,hb,h3,_⟩
  .rw[hv]at e;simp[Value.ownBlock]at e
  .rw[hv]at e;simp only[Value.ownBlock,Dt]at e;subst e;exact hno cur hb h3
 .have:(s.loc++List.replicate k (0:tyI)).length=s.loc.length+k:=Az;rw[this];have h3:Aj (s.loc++List.replicate k 0)=Aj s.loc++List.replicate k (.int .i64 0):=by unfold Aj;simp
  rw[h3];exact hown1
theorem UL(h:AX w g B s)(k:tyN)(hk:k<s.loc.length)(x:tyI):
  ∃gl c,V w g 2 (BG gl 0 s.loc.length c)/\V w gl k (O (s.loc.getD k 0))/\w.frozen? (aD gl k)=false/\
   AX (w.setCell (aD gl k) x) g B {s with loc:=s.loc.set k x}/\TK g B w (w.setCell (aD gl k) x)/\gl≠g:=by
 obtain⟨v,hcv,hown⟩:=h.1.loc;have hown0:=hown;rcases hown.2 with⟨_,h0⟩|⟨gl,cap,cur,rfl,hb,hh,hnc,hcm,hcs,htake⟩
 .omega
 .have hgl:gl≠g:=by have:=h.1.gB;omega
  have hset:∀q,q≠gl->hSM (w.setCell (aD gl k) x) w q:=λq hne=>BF w ⟨gl,k,none⟩ _ q hne
  have hgg:=hset g J
  have hrow:∀e',e'≠3->∀q cs,B<=q->BR w q cs e'->hSM (w.setCell (aD gl k) x) w q:=λe' hne q cs _ hq=>hset q (λe=>by
   subst e;rw[hh]at hq;simp only[Dt,Xc]at hq
   exact hne hq.2.1.symm)
  refine⟨gl,cap,hcv,?_,?_,⟨⟨h.1.gB,by simpa using h.1.sz,(Ak hgg).trans h.1.c0,λj=>(Fm hgg).trans (h.1.fz j),?_,?_,?_,?_,h.1.la,h.1.lb,by simpa using h.1.ll⟩,h.2⟩,?_,hgl⟩
  .rw[hown0.cellAt k J];have:=Er hk;unfold Bl at this;exact this
  .exact hown0.frozenAt k
  .obtain⟨A,c,h1,h2,h3⟩:=h.1.ans;exact⟨A,c,(Ak hgg).trans h1,Ew h2 (λb off e hp=>hset b (by have:=h3 b off e hp;have:=h.1.gB;omega)),h3⟩
  .refine⟨_,(Ak hgg).trans hcv,?_⟩;have hst:=(hown0.stored k x).1;have e1:Aj (s.loc.set k x)=(Aj s.loc).set k x:=by unfold Aj;rw[List.map_set]
   rw[e1];simpa using hst
  .obtain⟨v2,h1,h2⟩:=h.1.acc;exact⟨v2,(Ak hgg).trans h1,BQ h2 (hrow _ AQ)⟩
  .obtain⟨v2,h1,h2⟩:=h.1.Bi;exact⟨v2,(Ak hgg).trans h1,BQ h2 (hrow _ AQ)⟩
  .exact⟨rfl,rfl,rfl,Az,λq _ _ hf=>hset q (λe=>by
    subst e
    exact absurd rfl (hf hb cur _ hh).1),λ_ q hq=> .inl (hq.same hgg),λ_ q _ _ hr=>hset q λe=>hr (by subst e;exact⟨2,_,.inl rfl,hcv,rfl⟩)⟩
theorem qH(y:tyI)(h0: -4611686018427387904<=y)(h1:y<=4611686018427387904):IntKind.i64.wrap y=y:=by simp[IntKind.wrap,IntKind.bits,IntKind.signed];omega
theorem wB(p n k:tyN)(h:p+1=n+k)(hp:(p:tyI)<=32767):IntKind.i64.wrap (IntKind.i64.wrap ((p:tyI)+1)-(n:tyI))=(k:tyI):=by
 rw[qH ((p:tyI)+1) J J,qH _ J J];omega
theorem qF(s:TS)(i x:tyI)(h:i<0\/32768<=i):s.set i x=s:=by unfold TS.set;rw[AK h]
theorem lB(s:TS)(i:tyI)(h:¬(i<0\/32768<=i))(h2:(s.loc.length:tyI)<=i):s.set i 0=s:=by unfold TS.set;rw[AI h,AK h2,AK rfl]
theorem ls(s:TS)(p k:tyN)(x:tyI)(h:p<32768)(h2:p+1=s.loc.length+k)(hk:0<k)(hx:¬x=0):s.set p x={s with loc:=(s.loc++List.replicate k 0).set p x}:=by
 unfold TS.set;rw[AI J,AK J,AI hx,Gl,h2];congr 4;omega
theorem vR(s:TS)(p:tyN)(x:tyI)(h:p<32768)(h2:p<s.loc.length):s.set p x={s with loc:=s.loc.set p x}:=by
 unfold TS.set;rw[AI J,AI J,Gl]
theorem dU(g B:tyN)(i x:tyI)(s:TS)(w:tyW)(h:AX w g B s):
  Calls Tryz.prog 207 #[pT g,i,x] w λe w'=>e=BA (.tuple #[])/\AX w' g B (s.set i x)/\TK g B w w':=by
 obtain⟨v,hcv,hown⟩:=h.1.loc;obtain⟨A,c,rfl,hac,hcm⟩:=Af hown;have c0:=h.1.c0;have hll:=h.1.ll;have H:=I h;by_cases hr:i<0\/32768<=i
 .have HG:=I (qF s i x hr);clear h hown hcv;rcases hr with h1|h1
  .go_enter Tryz.func207,Tryz.ntmps207;go_wp2_with fail;refine Gz (qs rfl _ _ _) rfl ?_;exact⟨rfl,by rw[HG];exact H,TK.refl _ _ _⟩
  .have h2:¬i<0:=J;go_enter Tryz.func207,Tryz.ntmps207;go_wp2_with fail;refine Gz (qs rfl _ _ _) rfl ?_;exact⟨rfl,by rw[HG];exact H,TK.refl _ _ _⟩
 .have h1:¬i<0:=J;have h2:¬32768<=i:=J;obtain⟨p,rfl⟩:∃p:Nat,i=p:=⟨i.toNat,J⟩;by_cases hin:p<s.loc.length
  .have HG:=I (vR s p x J hin);obtain⟨gl,c1,k1,k2,k3,k4,k5,hne⟩:=UL h p hin x;have H4:=I k4;have H5:=I k5;have hle:¬(s.loc.length:tyI)<=(p:tyI):=J;have hmp:((p:tyI)<s.loc.length):=J;clear h hown hcv hr k4 k5 hin;generalize s.loc.getD p 0=old at*;obtain⟨n,hn⟩:=gX s.loc.length;rw[hn]at k1 hle hll hmp;clear hn hac hcm;go_enter Tryz.func207,Tryz.ntmps207;go_wp2_with fail
   go_end0
   exact⟨rfl,by rw[HG];exact H4,H5⟩
  .by_cases hx:x=0
   .subst hx;have HG:=I (lB s p hr J);have hle:(s.loc.length:tyI)<=(p:tyI):=J;clear h hown hr hin;obtain⟨n,hn⟩:=gX s.loc.length;rw[hn]at hcv hle hll;clear hn hac;go_enter Tryz.func207,Tryz.ntmps207;go_wp2_with fail;refine Gz (qs rfl _ _ _) rfl ?_;exact⟨rfl,by rw[HG];exact H,TK.refl _ _ _⟩
   .obtain⟨k,hk⟩:∃k,p+1=s.loc.length+k:=⟨p+1-s.loc.length,J⟩;have HG:=I (ls s p k x J hk J hx);have HX:=I (λ(W w1:tyW) (v1:tyV) (hU:Up w W)=>am (W:=W) (w1:=w1) (v1:=v1) (k:=k) hU h hcv hown J);have HOWN:=I hown;have hgs:=h.1.gs;have hf2:=h.1.fz 2;have HS:=I h.1.sz;obtain⟨i0,hi,hz0,hz1,hz2⟩:=info_parts QS;have HI:=I hi;have HZ0:=I hz0;have HZ1:=I hz1;have HZ2:=I hz2;have hle:(s.loc.length:tyI)<=(p:tyI):=J;have hx0:(x==0)=false:=by simpa using hx
    have HL:=I (show(s.loc++List.replicate k (0:tyI)).length=p+1 by simp;omega);obtain⟨n,hn⟩:=gX s.loc.length;rw[hn]at hcv hle hll HX HOWN hk hac;have HK:=I hk;have hp1:(p:tyI)<=32767:=J;have HW:=I (show IntKind.i64.wrap (IntKind.i64.wrap ((p:tyI)+1)-(n:tyI))=(k:tyI)from wB p n k hk hp1);clear h hown hr hin hn hi hz0 hz1 hz2 hk;go_enter Tryz.func207,Tryz.ntmps207;go_wp2_with fail
    go_region_law (refine NM rfl (.tmp 36) (.tmp 44) 25 3 rfl B 3 i0 .i64 .i64 Tryz.underlying25 Tryz.underlying3 HI HZ0 HZ1 HZ2 _ n (Aj s.loc) rfl (EB HOWN (AV w).drew) k (by simp[Act.eval,Act.put];exact HW) (by have:=HK.out;omega) (by have:=HK.out;omega) (by have:=HS.out;simp;omega) ?_;intro v1 w1 hown1 hgrow hor;obtain⟨g1,cap,rfl,_,_⟩:=hown1.form (by have:=HK.out;omega);obtain⟨hc3,iZ,HT0,mo⟩:=HX _ _ _ (AV w).drew hown1 hgrow hor;have HT:=I HT0;have SF:=I mo;clear HT0 mo hown1 hgrow hor)
    all_goals
     generalize w1.setCell (aD g 2) (BG g1 0 (n+k) cap)=W1 at*;obtain⟨gl,c1,k1,k2,k3,k4,k5,hne⟩:=UL HT p (by rw[HL];omega) x;simp only at k1 k2 k4;rw[HL]at k1;have H4:=I k4;have H5:=I (SF.trans k5);have hm1:(p:tyI)<((p+1:tyN):tyI):=J;clear hc3 iZ hcv hf2 k4 k5 HT SF HOWN;generalize(s.loc++List.replicate k (0:tyI)).getD p 0=old at*;generalize p+1=q at*;go_wp2_with fail
     go_end0
     exact⟨rfl,by rw[HG];exact H4,H5⟩
theorem qB(s:TS)(i v:tyI):(s.set i v).acc=s.acc/\(s.set i v).Bi=s.Bi/\(s.set i v).loc.length<=max s.loc.length 32768:=by
 unfold TS.set;split
 .exact⟨rfl,rfl,J⟩
 .split
  .split
   .exact⟨rfl,rfl,J⟩
   .refine⟨rfl,rfl,?_⟩;simp only[List.length_set,Gx,XE];omega
  .refine⟨rfl,rfl,?_⟩;simp only[List.length_set];omega
theorem TW(s:TS)(a:Int×Int×Int):(s.asked a).acc.length=s.acc.length+1/\(s.asked a).Bi=s.Bi/\(s.asked a).loc=s.loc:=by simp[TS.asked]
theorem dA(s:TS)(i x:tyI):(s.set i x).Bi=s.Bi:=by
 unfold TS.set;split
 .rfl
 .split
  .split<;>rfl
  .rfl
theorem qI(s:TS)(i x:tyI):(s.set i x).acc=s.acc:=by
 unfold TS.set;split
 .rfl
 .split
  .split<;>rfl
  .rfl
theorem Uz(s:TS)(i x:tyI):(s.set i x).ans=s.ans:=by
 unfold TS.set;split
 .rfl
 .split
  .split<;>rfl
  .rfl
inductive Op (α:Type):Type where
 |ret (v:α):Op α
 |ask (a:Int×Int×Int) (k:Int->Op α):Op α
 |get (i:tyI) (k:Int->Op α):Op α
 |set (i v:tyI) (k:Op α):Op α
 |note (c:tyI) (k:Op α):Op α
 |live (k:Bool->Op α):Op α
variable {α β:Type}
def Op.bind:Op α->(α->Op β)->Op β
 | .ret v,f=>f v
 | .ask a k,f=> .ask a λx=>(k x).bind f
 | .get i k,f=> .get i λx=>(k x).bind f
 | .set i v k,f=> .set i v (k.bind f)
 | .note c k,f=> .note c (k.bind f)
 | .live k,f=> .live λb=>(k b).bind f
def Op.BH:Op α->TS->Option α×TS
 | .ret v,s=>(some v,s)
 | .ask a k,s=>if s.acc.length<s.ans.length then(k s.told).BH (s.asked a)else(none,s.asked a)
 | .get i k,s=>(k (s.get i)).BH s
 | .set i v k,s=>k.BH (s.set i v)
 | .note c k,s=>k.BH (s.DY c)
 | .live k,s=>(k true).BH s
def AAL (x:Option α×TS)(f:α->TS->Option β×TS):Option β×TS:=match x with
 |(some v,s)=>f v s
 |(none,s)=>(none,s)
theorem JK:∀(o:Op α) (f:α->Op β) (s:TS),(o.bind f).BH s=AAL (o.BH s) λv s=>(f v).BH s
 | .ret v,f,s=>rfl
 | .ask a k,f,s=>by
  show(if _ then _ else _)=AAL (if _ then _ else _) _;by_cases h:s.acc.length<s.ans.length
  .rw[AK h,AK h];exact JK (k s.told) f _
  .rw[AI h,AI h];rfl
 | .get i k,f,s=>JK (k (s.get i)) f s
 | .set i v k,f,s=>JK k f _
 | .note c k,f,s=>JK k f _
 | .live k,f,s=>JK (k true) f s
theorem PI:∀(o:Op α) (s:TS),s.acc.length<=s.ans.length->(o.BH s).2.acc.length<=s.ans.length+1/\(o.BH s).2.ans=s.ans/\(o.BH s).2.loc.length<=max s.loc.length 32768
 | .ret v,s,h=>⟨UI h,rfl,Nat.le_max_left _ _⟩
 | .ask a k,s,h=>by
  obtain⟨e1,e2,e3⟩:=TW s a;by_cases hlt:s.acc.length<s.ans.length
  .have e:(Op.ask a k).BH s=(k s.told).BH (s.asked a):=AK hlt;rw[e];have:=PI (k s.told) (s.asked a) (by rw[e1];exact hlt);rw[e3]at this;exact this
  .have e:(Op.ask a k).BH s=(none,s.asked a):=AI hlt;rw[e];exact⟨by rw[e1];show _<=s.ans.length+1;omega,rfl,by rw[e3];exact Nat.le_max_left _ _⟩
 | .get i k,s,h=>PI (k _) s h
 | .set i v k,s,h=>by
  obtain⟨e1,e2,e3⟩:=qB s i v;have:=PI k (s.set i v) (by rw[e1,Uz];exact h);rw[Uz]at this;exact⟨this.1,this.2.1,by have:=this.2.2;show(k.BH (s.set i v)).2.loc.length<=_;omega⟩
 | .note c k,s,h=>PI k (s.DY c) h
 | .live k,s,h=>PI (k true) s h
def Op.few:Nat->Op α->Prop
 |n,.ret v=>True
 |n,.ask a k=> ∀x,(k x).few n
 |n,.get i k=> ∀x,(k x).few n
 |n,.set i v k=>k.few n
 |n,.note c k=> ∃m,n=m+1/\k.few m
 |n,.live k=> ∀b,(k b).few n
theorem PJ:∀(o:Op α) (n:tyN) (s:TS),o.few n->(o.BH s).2.Bi.length<=s.Bi.length+n
 | .ret v,n,s,h=>qz _ _
 | .ask a k,n,s,h=>by
  by_cases hlt:s.acc.length<s.ans.length
  .have e:(Op.ask a k).BH s=(k s.told).BH (s.asked a):=AK hlt;rw[e];exact PJ (k s.told) n (s.asked a) (h _)
  .have e:(Op.ask a k).BH s=(none,s.asked a):=AI hlt;rw[e];exact qz _ _
 | .get i k,n,s,h=>PJ (k _) n s (h _)
 | .set i v k,n,s,h=>by
  have:=PJ k n (s.set i v) h;rw[dA]at this;exact this
 | .note c k,n,s,h=>by
  obtain⟨m,rfl,h2⟩:=h;have:=PJ k m (s.DY c) h2;simp only[TS.DY,Gx,IN]at this;show(k.BH (s.DY c)).2.Bi.length<=_;simp only[TS.DY];omega
 | .live k,n,s,h=>PJ (k true) n s (h true)
theorem Ey:∀(o:Op α) (f:α->Op β) (n m:tyN),o.few n->(∀v,(f v).few m)->(o.bind f).few (n+m)
 | .ret v,f,n,m,h,hf=>DC (f v) (hf v) J
 | .ask a k,f,n,m,h,hf=>λx=>Ey (k x) f n m (h x) hf
 | .get i k,f,n,m,h,hf=>λx=>Ey (k x) f n m (h x) hf
 | .set i v k,f,n,m,h,hf=>Ey k f n m h hf
 | .note c k,f,n,m,h,hf=>by
  obtain⟨n',rfl,h2⟩:=h;exact⟨n'+m,J,Ey k f n' m h2 hf⟩
 | .live k,f,n,m,h,hf=>λb=>Ey (k b) f n m (h b) hf
 where DC {γ:Type}:∀(o:Op γ) {n m:tyN},o.few n->n<=m->o.few m
 | .ret v,n,m,h,hle=>trivial
 | .ask a k,n,m,h,hle=>λx=>DC (k x) (h x) hle
 | .get i k,n,m,h,hle=>λx=>DC (k x) (h x) hle
 | .set i v k,n,m,h,hle=>DC k h hle
 | .note c k,n,m,h,hle=>by
  obtain⟨n',rfl,h2⟩:=h;obtain⟨m',rfl⟩:∃m',m=m'+1:=⟨m-1,J⟩;exact⟨m',rfl,DC k h2 J⟩
 | .live k,n,m,h,hle=>λb=>DC (k b) (h b) hle
theorem AP.two{enc:α->Value}{r:Option α×TS}(h:AP enc g B w r e w'):
  (∃v s',r=(Option.some v,s')/\e=BA (enc v)/\AX w' g B s'/\TK g B w w')\/(∃s',r=(Option.none,s')/\e= .panicked (JL g)/\A5 w' g B 2 s'/\TK g B w w'):=by
 obtain⟨o,s'⟩:=r;cases o with
 |some v=>exact .inl ⟨v,s',rfl,AP.Fa rfl h⟩
 |none=>exact .inr ⟨s',rfl,AP.Fd rfl h⟩
theorem AP.from{enc:α->Value}{r:Option α×TS}(h:AP enc g B w r e w')(k:TK g B w0 w):AP enc g B w0 r e w':=⟨h.1,k.trans h.2⟩
theorem Ej{P:Program}{a:Act}{Q:Exit->Act->World->Prop}{c rest:Code}(l:tyN)(hf:findLabel c l=some rest)
  (first:∀AC:Act->World->Prop,Hid (∀a w,rest.wp P (Exit.noGoto Q) a w->AC a w)->c.wp P (Exit.jump l AC Q) a w):(Code.scope c).wp P Q a w:=
 wp_scope_jumps l (λa w=>rest.wp P (Exit.noGoto Q) a w) (λ_ _=>0) hf (first _ (I λ_ _ h=>h)) (λa w h=>wp_mono h (λe a' w' q=>by
  cases e<;>first|exact q|exact q.elim))
def Goes (g B:tyN)(W:tyW)(R:Option α×TS)(enc:β->Value)(k:β->Op α)(e:Ending)(w':tyW):Prop:=
 (∃s',e= .panicked (JL g)/\Hid (A5 w' g B 2 s')/\Hid (TK g B W w')/\Hid (R=(none,s')))\/(∃x s',e=BA (enc x)/\Hid (AX w' g B s')/\Hid (TK g B W w')/\Hid ((k x).BH s'=R))
theorem Aw{R:Option α×TS}{enc:β->Value}{o:Op β}{k:β->Op α}{f:tyN}{args:Array Value}
  (hc:Calls Tryz.prog f args W (AP enc g B W (o.BH s))) (hE:(o.bind k).BH s=R):Calls Tryz.prog f args W (Goes g B W R enc k):=
 hc.mono λe w' q=>by
  rw[JK]at hE;rcases q.two with⟨v,s',hr,he,h1,k1⟩|⟨s',hr,he,h1,k1⟩
  .rw[hr]at hE;exact .inr ⟨v,s',he,I h1,I k1,I hE⟩
  .rw[hr]at hE;exact .inl ⟨s',he,I h1,I k1,I hE.symm⟩
theorem Eg{c:tyI}(h:AX W g B s){k:Int->Op α}{R:Option α×TS}(hE:(Op.ask (1,c,0) k).BH s=R):
  Calls Tryz.prog 214 #[pT g,c] W (Goes g B W R encI k):=
 Aw (o:= .ask (1,c,0) .ret) ((mj g B c s W h).mono λe w' q=>by
  have e1:(Op.ask (1,c,0) Op.ret).BH s=YQ (1,c,0) s:=by
   show(if _ then _ else _)=_;unfold YQ;split<;>rfl
  rw[e1];exact q) hE
theorem Ho{c v:tyI}(h:AX W g B s){k:Unit->Op α}{R:Option α×TS}(hE:(Op.ask (2,c,v) λ_=>k ()).BH s=R):
  Calls Tryz.prog 212 #[pT g,c,v] W (Goes g B W R Mq k):=by
 refine Aw (o:= .ask (2,c,v) λ_=> .ret ()) (k:=k) (s:=s) ?_ hE;have e1:(Op.ask (2,c,v) λ_=>Op.ret ()).BH s=if s.acc.length<s.ans.length then(some (),s.asked (2,c,v))else(none,s.asked (2,c,v)):=rfl
 rw[e1];by_cases hlt:s.acc.length<s.ans.length
 .rw[AK hlt];exact(YB g B c v s W h hlt).mono λe w' q=>AP.some rfl q
 .rw[AI hlt];exact(Rl g B c v s W h hlt).mono λe w' q=>AP.none rfl q
def AE0 (g B:tyN)(W:tyW)(R:Option α×TS)(k:Op α)(e:Ending)(w':tyW):Prop:=
 e=BA (.tuple #[])/\∃s',Hid (AX w' g B s')/\Hid (TK g B W w')/\Hid (k.BH s'=R)
theorem EN{i:tyI}(h:AX W g B s){k:Int->Op α}{R:Option α×TS}(hE:(Op.get i k).BH s=R):
  Calls Tryz.prog 205 #[pT g,i] W λe w'=> ∃x,e=BA (O x)/\w'=W/\Hid ((k x).BH s=R):=
 (Vd g B i s W h).mono λe w' q=>⟨_,q.1,q.2,I hE⟩
theorem Ff{i v:tyI}(h:AX W g B s){k:Op α}{R:Option α×TS}(hE:(Op.set i v k).BH s=R):
  Calls Tryz.prog 207 #[pT g,i,v] W (AE0 g B W R k):=
 (dU g B i v s W h).mono λe w' q=>⟨q.1,_,I q.2.1,I q.2.2,I hE⟩
theorem vH{c:Prop}[Decidable c]{a b:Op α}{R:Option α×TS}(hc:c)(hE:(if c then a else b:Op α).BH s=R):a.BH s=R:=by rw[AK hc]at hE;exact hE
theorem kL{c:Prop}[Decidable c]{a b:Op α}{R:Option α×TS}(hc:¬c)(hE:(if c then a else b:Op α).BH s=R):b.BH s=R:=by rw[AI hc]at hE;exact hE
theorem O6{x y:tyI}{a b:Op α}{R:Option α×TS}(hE:Hid ((if x=y then a else b:Op α).BH s=R)):(x=y/\Hid (a.BH s=R))\/((x==y)=false/\Hid (b.BH s=R)):=by
 by_cases h:x=y
 .exact .inl ⟨h,I (vH h hE.out)⟩
 .exact .inr ⟨by rw[Dy];exact h,I (kL h hE.out)⟩
def BC (n lo hi:tyI):Int:=if n<lo then lo else if hi<n then hi else n
theorem Mw(n lo hi:tyI)(w:tyW):Calls Tryz.prog 63 #[n,lo,hi] w λe w'=>e=BA (O (BC n lo hi))/\w=w':=by
 unfold BC;by_cases h1:n<lo
 .rw[AK h1];go_enter Tryz.func63,Tryz.ntmps63
  go_wp2
  go_ret;exact⟨rfl,rfl⟩
 .rw[AI h1];by_cases h2:hi<n
  .rw[AK h2];go_enter Tryz.func63,Tryz.ntmps63
   go_wp2
   go_ret;exact⟨rfl,rfl⟩
  .rw[AI h2];go_enter Tryz.func63,Tryz.ntmps63
   go_wp2
   go_ret;exact⟨rfl,rfl⟩
def Di (n top:tyI):Int:=n%(BC top 0 1099511627776+1)
theorem Ov(top:tyI):0<=BC top 0 1099511627776/\BC top 0 1099511627776<=1099511627776:=by
 unfold BC;split
 .omega
 .split<;>omega
theorem Ti(n m:tyI)(hm:0<m): -m<n.tmod m/\n.tmod m<m/\n%m=if n.tmod m<0 then n.tmod m+m else n.tmod m:=by
 by_cases hn:0<=n
 .rw[rH hn];have h1:=XZ n (show m≠0 by omega);have h2:=Yi n hm;refine⟨J,h2,?_⟩;rw[AI J]
 .have e:n.tmod m= -((-n)%m):=by
   have:=Int.neg_tmod (-n) m;rw[Int.neg_neg]at this;rw[this,rH J]
  have h1:=XZ (-n) (show m≠0 by omega);have h2:=Yi (-n) hm;have h3:=Int.mul_ediv_add_emod (-n) m;generalize hk:(-n)%m=k at*
  have hn2:n=m*(-((-n)/m))+(-k):=by
   rw[Int.mul_neg];omega
  have h4:n%m=(-k)%m:=by
   rw[hn2,Int.mul_add_emod_self_left]
  rw[e];refine⟨J,J,?_⟩;rw[h4];by_cases hk0:k=0
  .subst hk0;simp
  .rw[AK J,<-Int.add_emod_right,Int.emod_eq_of_lt J J]
theorem UC(n top:tyI)(w:tyW):Calls Tryz.prog 34 #[n,top] w λe w'=>e=BA (O (Di n top))/\w=w':=by
 have C:=I (Mw top 0 1099511627776 w);have HW:=I (show Di n top=n%(BC top 0 1099511627776+1)from rfl);obtain⟨h0,h1⟩:=Ov top;generalize BC top 0 1099511627776=t at*;have hm0:¬(t+1=0):=J;obtain⟨hq,hp,he⟩:=Ti n (t+1) J;have HE:=I he;have HP:=I hp;have HQ:=I hq;clear hp hq he;go_enter Tryz.func34,Tryz.ntmps34;go_wp2_with fail;refine C.out.mono ?_;rintro e w' ⟨rfl,rfl⟩;by_cases hr:n.tmod (t+1)<0
 .have hq:=HQ.out;have hp:=HP.out;have HE2:=I (HE.trans (AK hr))
  go_wp2
  go_ret;exact⟨by rw[HW,HE2];rfl,rfl⟩
 .have hq:=HQ.out;have hp:=HP.out;have HE2:=I (HE.trans (AI hr))
  go_wp2
  go_ret;exact⟨by rw[HW,HE2];rfl,rfl⟩
structure QA where
 on:Bool
 wr:Bool
 val:Int
 ov:Bool
 may:List Int
def Jx:QA:=⟨false,false,0,false,[]⟩
structure CS where
 kind:Int
 top:Int
 value:Int
 B1:Nat->QA
def CS.new (kind top:tyI):CS:=⟨kind,BC top 0 1099511627776,0,λ_=>Jx⟩
def CS.put (c:CS)(t:tyN)(a:QA):CS:={c with B1:=λi=>if i=t then a else c.B1 i}
def aJ (kind:tyI)(v:tyI)(r:QA):QA:={r with ov:=true,may:=if kind=2 then r.may++[v]else r.may}
def BW (c:CS):Nat->QA
 |0=>⟨true,false,0,false,if c.kind=2 then[c.value]else[]⟩
 |n+1=>if(c.B1 n).on=true/\(c.B1 n).wr=true then aJ c.kind (c.B1 n).val (BW c n)else BW c n
def Ju (c:CS)(v:tyI):Nat->CS
 |0=>c
 |n+1=>if((Ju c v n).B1 n).on=true/\((Ju c v n).B1 n).wr=false then(Ju c v n).put n (aJ c.kind v ((Ju c v n).B1 n))else Ju c v n
def AZ (v top:tyI):Int:=BC v 0 (BC top 0 1099511627776)
def CS.begin (c:CS)(t k v:tyI):Int×CS:=
 if t<0\/8<=t\/(k≠1/\k≠2)then(1,c)
 else if(c.B1 t.toNat).on=true then(12,c)
 else if k=1 then(0,c.put t.toNat (BW c 8))
 else(0,(Ju c (AZ v c.top) 8).put t.toNat ⟨true,true,AZ v c.top,false,[]⟩)
def Qi (c:CS)(a:QA)(d:tyI):Int:=
 if c.kind=1/\a.ov=true then Di d c.top else if c.kind=2 then a.may.getD (Di d ((a.may.length:tyI)-1)).toNat 0 else c.value
def CS.Bm (c:CS)(t d:tyI):Int×Int×CS:=
 if t<0\/8<=t then(0,7,c)
 else if(c.B1 t.toNat).on=false then(0,7,c)
 else if(c.B1 t.toNat).wr=true then(0,0,{c.put t.toNat Jx with value:=(c.B1 t.toNat).val})
 else(Qi c (c.B1 t.toNat) d,0,c.put t.toNat Jx)
structure BS where
 u:List (Int×CS)
 by':Nat->Bool×Int
def C9:List (Int×CS)->Int->Option CS
 |[],_=>none
 |p::r,n=>if p.1=n then some p.2 else C9 r n
def Eh:List (Int×CS)->Int->CS->List (Int×CS)
 |[],n,c=>[(n,c)]
 |p::r,n,c=>if p.1=n then(n,c)::r else p::Eh r n c
theorem Bs(n:tyI)(c:CS):∀u,C9 (Eh u n c) n=some c
 |[]=>by simp[Eh,C9]
 |p::r=>by
  unfold Eh;split
  .simp[C9]
  .rename_i h;simp[C9,h,Bs n c r]
theorem CB{n m:tyI}(h:m≠n)(c:CS):∀u,C9 (Eh u n c) m=C9 u m
 |[]=>by simp[Eh,C9,Cz h]
 |p::r=>by
  unfold Eh;split
  .rename_i e;simp[C9,e,Cz h]
  .simp only[C9,CB h c r]
def bs0:BS:=⟨[],λ_=>(false,0)⟩
def BS.busy (s:BS)(t:tyI):Int×Bool:=if t<0\/8<=t then(0,false)else((s.by' t.toNat).2,(s.by' t.toNat).1)
def BS.Xf (s:BS)(t:tyI)(p:Bool×Int):BS:={s with by':=λi=>if i=t.toNat then p else s.by' i}
def BS.begin (many:tyI)(er:tyI)(mk:Int->CS)(s:BS)(t k cl v:tyI):Int×BS:=
 if¬(0<=cl/\cl<many)then(er,s)
 else if(s.busy t).2=true then(12,s)
 else if(((C9 s.u cl).getD (mk cl)).begin t k v).1≠0 then((((C9 s.u cl).getD (mk cl)).begin t k v).1,s)
 else(0,{u:=Eh s.u cl (((C9 s.u cl).getD (mk cl)).begin t k v).2,by':=λi=>if i=t.toNat then(true,cl)else s.by' i})
def BS.Bm (mk:Int->CS)(s:BS)(t d:tyI):Int×Int×BS:=
 if(s.busy t).2=false then(0,7,s)
 else((((C9 s.u (s.busy t).1).getD (mk 0)).Bm t d).1,(((C9 s.u (s.busy t).1).getD (mk 0)).Bm t d).2.1,
  {u:=Eh s.u (s.busy t).1 (((C9 s.u (s.busy t).1).getD (mk 0)).Bm t d).2.2,by':=λi=>if i=t.toNat then(false,0)else s.by' i})
def BS.value (s:BS)(n:tyI):Int:=match C9 s.u n with|none=>0|some c=>c.value
def BS.Good (s:BS):Prop:= ∀t,t<8->(s.by' t).1=true->(C9 s.u (s.by' t).2).isSome=true
theorem kg:bs0.Good:=λt _ h=>by cases h
theorem cE{s:BS}(h:(s.busy t).2=true):0<=t/\t<8/\(s.by' t.toNat).1=true/\(s.busy t).1=(s.by' t.toNat).2:=by
 unfold BS.busy at h|-;split at h
 .cases h
 .rename_i hn;rw[AI hn];exact⟨J,J,h,rfl⟩
theorem BS.Good.begin{s:BS}(h:s.Good)(many er:tyI)(mk:Int->CS)(t k cl v:tyI):(s.begin many er mk t k cl v).2.Good:=by
 unfold BS.begin;split
 .exact h
 split
 .exact h
 split
 .exact h
 intro i hi hon;simp only at hon|-;by_cases e:i=t.toNat
 .rw[AK e,Bs];rfl
 .rw[AI e]at hon|-;by_cases e2:(s.by' i).2=cl
  .rw[e2,Bs];rfl
  .rw[CB e2];exact h i hi hon
theorem BS.Good.Bm{s:BS}(h:s.Good)(mk:Int->CS)(t d:tyI):(s.Bm mk t d).2.2.Good:=by
 unfold BS.Bm;split
 .exact h
 intro i hi hon;simp only at hon|-;by_cases e:i=t.toNat
 .rw[AK e]at hon;cases hon
 .rw[AI e]at hon|-;by_cases e2:(s.by' i).2=(s.busy t).1
  .rw[e2,Bs];rfl
  .rw[CB e2];exact h i hi hon
def ByR (k:tyI)(p q:Bool×Int):Prop:=(p=(true,k)->q=(true,k))/\(p≠(true,k)->q=(false,0))
structure Apart (k:tyI)(a b:BS):Prop where
 same:C9 a.u k=C9 b.u k
 by':∀t,t<8->ByR k (a.by' t) (b.by' t)
theorem Apart.value{a b:BS}(h:Apart k a b):a.value k=b.value k:=by unfold BS.value;rw[h.same]
theorem Apart.busy{a b:BS}(h:Apart k a b)(ha:(a.busy t).2=true)(hk:(a.busy t).1=k):b.busy t=(k,true):=by
 obtain⟨h1,h2,h3,h4⟩:=cE ha;have e:a.by' t.toNat=(true,k):=by rw[<-hk,h4];exact ey h3 rfl
 have:=(h.by' t.toNat J).1 e;unfold BS.busy;rw[AI J,this]
theorem Apart.FT{a b:BS}(h:Apart k a b)(mk:Int->CS)(d:tyI)(ha:(a.busy t).2=true)(hk:(a.busy t).1=k):
  (a.Bm mk t d).1=(b.Bm mk t d).1/\(a.Bm mk t d).2.1=(b.Bm mk t d).2.1/\Apart k (a.Bm mk t d).2.2 (b.Bm mk t d).2.2:=by
 have hb:=h.busy ha hk;unfold BS.Bm;rw[hb,hk,ha,h.same];rw[AI Az,AI Az];refine⟨rfl,rfl,?_,λi hi=>?_⟩
 .show C9 (Eh a.u k _) k=C9 (Eh b.u k _) k;rw[Bs,Bs]
 .show ByR k (if i=t.toNat then(false,0)else a.by' i) (if i=t.toNat then(false,0)else b.by' i);by_cases e:i=t.toNat
  .rw[AK e,AK e];exact⟨λe=>(by cases e),λ_=>rfl⟩
  .rw[AI e,AI e];exact h.by' i hi
theorem aR(l:tyL):(List.range l.length).map (Bl l)=Aj l:=by
 apply mM
 .simp[Aj]
 .intro i h1 h2;simp at h1;simp only[dC,qh];have:=Er h1;unfold Aj at h2|-;rw[gG h2]at this;exact(El this).symm
theorem Zv(l:tyL):∀u∈Aj l,u.oneCell'=true:=by
 intro u hu;unfold Aj at hu;obtain⟨c,_,rfl⟩:=Cd.1 hu;rfl
theorem lD{n:tyN}{f:Nat->Value}(h:Row w none n f):n=0:=by
 rcases Pf n with h0|h0
 .exact h0
 .obtain⟨b,off,e,_⟩:=h 0 h0;cases e
theorem Li(l:tyL)(A:tyA)(c:tyN)(w:tyW)(hA:A=none->c=0)(hr:Row w A l.length (Bl l))(hb:l.length<=1000000):
  Calls Tryz.prog 52 #[AR A l.length c] w λe w'=> ∃v,e=BA v/\w'.ownsRow w.heap.size 3 1 v l.length (Aj l)/\Up w w':=by
 have hnil:=λW:World=>Lib.run_eql_slice_nil (P:=Tryz.prog) W 25 3 A l.length c 0 0 Tryz.underlying25
 cases A with
 |none=>
  obtain rfl:=bX (lD hr);have hc:=hA rfl;subst hc;clear hr hA hb;show Calls Tryz.prog 52 #[sN] w λe w'=> ∃v,e=BA v/\w'.ownsRow w.heap.size 3 1 v 0 []/\Up w w'
  simp only[Rn]at hnil;go_enter Tryz.func52,Tryz.ntmps52
  go_wp2
  go_ret;exact⟨_,rfl,YN _ _ _ _,AV _⟩
 |some ad=>
  obtain⟨i0,hi,hz0,hz1,hz2⟩:=info_parts QS;have HI:=I hi;have HZ0:=I hz0;have HZ1:=I hz1;have HZ2:=I hz2;have HR:=I hr;have HB:=I hb;have HRI:=I (aR l);have H1:=I (show∀u∈(List.range l.length).map (Bl l),u.oneCell'=true by rw[HRI];exact Zv l);generalize hn:l.length=n at HR HB HRI H1 hnil|-;clear hi hz0 hz1 hz2 hr hA hb hn;go_enter Tryz.func52,Tryz.ntmps52;go_wp2_with(at_builtin;refine JX rfl (.tmp 5) (.tmp 6) 25 rfl w.heap.size 3 i0 () 8 Tryz.underlying25 HI HZ0 HZ1 HZ2 rfl _ 0 [] rfl ?_ (some ad) n c (Bl l) rfl (λh=>by cases h) ?_ H1 AQ (by have:=HB.out;omega) ?_ ?_)
  case _=>exact gR w 3
  case _=>exact HR.up ((AV w).alloc _)
  case _=>simp
  .intro v1 w1 hown1 hg hbel;rw[HRI]at hown1;have HO:=I hown1;have HU:=I (show Up w w1 from DL ((AV w).alloc _) hbel);clear hown1 hg hbel
   go_wp2
   go_ret;exact⟨_,rfl,HO,HU⟩
def Cj (l:tyL):Nat->Nat
 |0=>0
 |n+1=>if l.getD n 0=0 then Cj l n else n+1
def Ag (l:tyL):List Int:=l.take (Cj l l.length)
theorem Kv(l:tyL):∀n,Cj l n<=n
 |0=>A9 _
 |n+1=>by
  unfold Cj;split
  .exact DB (Kv l n) J
  .exact A9 _
theorem Sk(l:tyL):(Ag l).length=Cj l l.length:=by
 unfold Ag;rw[Ie];have:=Kv l l.length;omega
theorem gO{A:tyA}{n k:tyN}{l:tyL}(h:Row w A n (Bl l))(hk:k<=n):Row w A k (Bl (l.take k)):=λj hj=>by
 obtain⟨b,off,e,hc⟩:=h j J;refine⟨b,off,e,?_⟩;rw[hc];unfold Bl;rw[gD,gD,Us,AK hj]
theorem Td(l:tyL)(A:tyA)(c:tyN)(w:tyW)(hA:A=none->c=0)(hr:Row w A l.length (Bl l))(hb:l.length<=1000000)(hcl:l.length<=c):
  Calls Tryz.prog 111 #[AR A l.length c] w λe w'=> ∃v,e=BA v/\w'.ownsRow w.heap.size 3 1 v (Ag l).length (Aj (Ag l))/\Up w w':=by
 have HR:=I hr
 have HC:=I (λ(k:tyN) (hk:k<=l.length)=>show k=Cj l l.length->Calls Tryz.prog 52 #[AR A k c] w λe w'=> ∃v,e=BA v/\w'.ownsRow w.heap.size 3 1 v (Ag l).length (Aj (Ag l))/\Up w w' from λh=>by
  have h2:=Li (l.take k) A c w hA (by rw[Ie,Ye hk];exact gO hr hk) (by rw[Ie];omega);rw[Ie,Ye hk]at h2;have h3:Ag l=l.take k:=by unfold Ag;rw[h]
  rw[h3,Ie,Ye hk]
  exact h2)
 have HS:=I (show∀k,k<l.length->l.getD k 0=0->Cj l (k+1)=Cj l k from λk _ h=>by show(if l.getD k 0=0 then Cj l k else k+1)=_;rw[AK h]);have HS2:=I (show∀k,k<l.length->¬l.getD k 0=0->Cj l (k+1)=k+1 from λk _ h=>by show(if l.getD k 0=0 then Cj l k else k+1)=_;rw[AI h]);have yt:=I (show Cj l 0=0 from rfl);generalize hn:l.length=n at HR hb hcl HC HS HS2|-;clear hr hn hA;go_enter Tryz.func111,Tryz.ntmps111;go_wp2_with fail
 go_loop[3] (λt=> ∃k:Nat,k<=n/\t=O k/\Hid (Cj l k=Cj l n)) (λt=>(intOf t).toNat)
 case atStart=>exact⟨n,A9 _,rfl,I rfl⟩
 case round=>
  obtain⟨k,hk,rfl,HK⟩:=hrel;cases k with
  |zero=>
   have HCC:=I (HC 0 hk (by rw[<-HK];exact yt.symm));go_wp2_with fail;refine HCC.mono ?_;rintro e w1 ⟨v,rfl,h1,h2⟩;have H1:=I h1;have H2:=I h2;clear h1 h2
   go_wp2
   go_ret;exact⟨_,rfl,H1,H2⟩
  |succ k=>
   obtain⟨b,off,rfl,hcell⟩:=HR k J;unfold Bl at hcell;have HSk:=I (HS k J);have AFH:=I (HS2 k J);generalize l.getD k 0=x at*;have e1:((k+1:tyN):tyI)=(k:tyI)+1:=J;by_cases hx:x=0
   .subst hx;have HX:=I ((HSk rfl).symm.trans HK);have hin:(k:tyI)<(n:tyI):=J;go_wp2_with fail;exact⟨⟨k,J,rfl,HX⟩,by simp[intOf]⟩
   .have hx0:(x==0)=false:=by simpa using hx
    have HCC:=I (HC (k+1) hk (by rw[<-HK];exact(AFH hx).symm));go_wp2_with fail;refine HCC.mono ?_;rintro e w1 ⟨v,rfl,h1,h2⟩;have H1:=I h1;have H2:=I h2;clear h1 h2
    go_wp2
    go_ret;exact⟨_,rfl,H1,H2⟩
abbrev CD:=Int×Int×Int
abbrev RD:=Int×Int
structure N8 where
 prog:List CD
 next:Nat
 loc:List Int
 ans:List Int
 acc:Int×Int×Int
 st:Int
 Bi:Nat
 GD:Nat
 CV:Bool
structure D6 where
 at':Int
 kind:Int
 thread:Int
 call:Int
 val:Int
 err:Int
 YU:Int
def th0:N8:=⟨[],0,[],[],(0,0,0),0,0,0,false⟩
structure WD where
 n:Nat
 AU:Nat->N8
 Dc:BS
 drawn:Nat
 now:Nat
def WD.put (S:WD)(t:tyN)(th:N8):WD:={S with AU:=λi=>if i=t then th else S.AU i}
structure MD where
 P:Nat->CD->Op RD
 many:Int
 fresh:Int->CS
 draws:List Int
variable (M:MD)
def N8.call (th:N8):CD:=th.prog.getD th.next (0,0,0)
def Co (t:tyN)(th:N8):Option RD×TS:=(M.P t th.call).BH ⟨th.ans,th.loc,[],[]⟩
def VK (now:tyN)(t next:tyN)(k:tyI):D6:=⟨now,3,t,next,k,0,0⟩
def JF (t:tyN)(S:WD):List D6:=
 ((Co M t (S.AU t)).2.Bi.drop (S.AU t).Bi).map (λk=>VK S.now t (S.AU t).next k.1)++
   (match(Co M t (S.AU t)).1 with|none=>[]|some v=>[⟨S.now,2,t,(S.AU t).next,0,v.1,v.2⟩])
def Gv (t:tyN)(th:N8):N8:=match(Co M t th).1 with
 |none=>{th with Bi:=(Co M t th).2.Bi.length,acc:=(Co M t th).2.acc.getD ((Co M t th).2.acc.length-1) (0,0,0),st:=1}
 |some _=>{th with loc:=Ag (Co M t th).2.loc,ans:=[],Bi:=0,st:=0,next:=th.next+1}
def DX (t:tyN)(S:WD):WD:=S.put t (Gv M t (S.AU t))
def Ma (t:tyN)(S:WD):Int×BS:=S.Dc.begin M.many 6 M.fresh t (S.AU t).acc.1 (S.AU t).acc.2.1 (S.AU t).acc.2.2
def Cb (t:tyN)(S:WD):WD:=if(Ma M t S).1=0 then{S.put t {S.AU t with st:=2}with Dc:=(Ma M t S).2}else S
def EP (t:tyN)(S:WD):Int:=if(S.AU t).acc.1≠1\/M.draws.length=0 then 0 else M.draws.getD S.drawn 0
def Iw (t:tyN)(S:WD):Nat:=if(S.AU t).acc.1≠1\/M.draws.length=0 then S.drawn else(S.drawn+1)%M.draws.length
def GS (t:tyN)(S:WD):WD:=
 {S.put t {S.AU t with ans:=(S.AU t).ans++[(S.Dc.Bm M.fresh t (EP M t S)).1],GD:=(S.AU t).GD+1}with Dc:=(S.Dc.Bm M.fresh t (EP M t S)).2.2,drawn:=Iw M t S}
def WD.tick (S:WD):WD:={S with now:=S.now+1}
def Ms (t:tyN)(S:WD):D6:=⟨S.now,1,t,(S.AU t).next,0,0,0⟩
def NB (t:tyN)(S:WD):WD:=if((DX M t S).AU t).st=1 then Cb M t (DX M t S)else DX M t S
def EQ (t:tyN)(S:WD):WD:=
 if S.n<=t then S
 else if(S.AU t).CV=true then S.tick
 else if(S.AU t).st=0 then(if(S.AU t).prog.length<=(S.AU t).next then S.tick else NB M t S.tick)
 else if(S.AU t).st=1 then Cb M t S.tick
 else DX M t (GS M t S.tick)
def KR (t:tyN)(S:WD):List D6:=
 if S.n<=t then[]
 else if(S.AU t).CV=true then[]
 else if(S.AU t).st=0 then(if(S.AU t).prog.length<=(S.AU t).next then[]else Ms t S.tick::JF M t S.tick)
 else if(S.AU t).st=1 then[]
 else JF M t (GS M t S.tick)
def ID (t:tyN)(S:WD):WD:=if S.n<=t\/(S.AU t).CV=true then S else S.put t {S.AU t with CV:=true}
def JV (t:tyN)(S:WD):List D6:=if S.n<=t\/(S.AU t).CV=true then[]else[⟨S.now,4,t,(S.AU t).next,0,0,0⟩]
def Bv (t:tyN):Nat->WD->WD×List D6
 |0,S=>(S,[])
 |k+1,S=>(EQ M t (Bv t k S).1,(Bv t k S).2++KR M t (Bv t k S).1)
structure BL where
 thread:Int
 times:Int
 halt:Bool
def IJ (p:BL)(S:WD):WD×List D6:=if p.halt=true then(ID p.thread.toNat S,JV p.thread.toNat S)else Bv M p.thread.toNat p.times.toNat S
def B7 (ps:List BL):Nat->WD->WD×List D6
 |0,S=>(S,[])
 |k+1,S=>((IJ M (ps.getD k ⟨0,0,true⟩) (B7 ps k S).1).1,(B7 ps k S).2++(IJ M (ps.getD k ⟨0,0,true⟩) (B7 ps k S).1).2)
def Cv (AH:List (List CD)):WD:=⟨AH.length,λt=>{th0 with prog:=AH.getD t []},bs0,0,0⟩
inductive qv (α:Type):Type where
 |done (v:α)
 |wait (a:Int×Int×Int) (k:Int->Op α)
def Op.head {α:Type}:Op α->List Int->qv α×List Int×List Int
 | .ret v,l=>(.done v,l,[])
 | .ask a k,l=>(.wait a k,l,[])
 | .get i k,l=>(k ((⟨[],l,[],[]⟩:TS).get i)).head l
 | .set i v k,l=>k.head ((⟨[],l,[],[]⟩:TS).set i v).loc
 | .note c k,l=>((k.head l).1,(k.head l).2.1,c::(k.head l).2.2)
 | .live k,l=>(k true).head l
theorem px(s:TS)(i:tyI):s.get i=(⟨[],s.loc,[],[]⟩:TS).get i:=rfl
theorem Xu(s:TS)(i v:tyI):s.set i v={s with loc:=((⟨[],s.loc,[],[]⟩:TS).set i v).loc}:=by
 unfold TS.set;split
 .rfl
 split
 .split<;>rfl
 .rfl
def T1 {α:Type}(h:qv α×List Int×List Int)(s:TS):Option α×TS:=match h with
 |(.done v,l,ks)=>(some v,{s with loc:=l,Bi:=s.Bi++ks.map λk=>(k,(s.acc.length:tyI))})
 |(.wait a k,l,ks)=>(Op.ask a k).BH {s with loc:=l,Bi:=s.Bi++ks.map λk=>(k,(s.acc.length:tyI))}
theorem LG{α:Type}:∀(o:Op α) (s:TS),o.BH s=T1 (o.head s.loc) s
 | .ret v,s=>by
  show(some v,s)=(some v,_);simp
 | .ask a k,s=>by
  show _=(Op.ask a k).BH _;simp
 | .get i k,s=>by
  show(k (s.get i)).BH s=T1 ((k _).head s.loc) s;rw[LG (k (s.get i)) s,px]
 | .set i v k,s=>by
  show k.BH (s.set i v)=T1 (k.head _) s;rw[LG k (s.set i v),Xu];generalize((⟨[],s.loc,[],[]⟩:TS).set i v).loc=l;rcases k.head l with⟨h,l2,ks⟩
  cases h<;>rfl
 | .note c k,s=>by
  show k.BH (s.DY c)=T1 ((k.head s.loc).1,(k.head s.loc).2.1,c::(k.head s.loc).2.2) s;rw[LG k (s.DY c)];show T1 (k.head s.loc) _=_;rcases k.head s.loc with⟨h,l2,ks⟩
  cases h<;>simp[T1,TS.DY]
 | .live k,s=>LG (k true) s
end
end Go.Proofs.YtpodgcpkccpnfaaGreat
