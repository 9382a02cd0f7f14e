/-
  Parts of a proof, packed: RowW
-/
import Derived.Test.YtpodgcpkccpnfaaGreatPk01
import Derived.Test.YtpodgcpkccpnfaaGreatPk26
set_option linter.unusedVariables false
set_option linter.unusedSimpArgs false
set_option maxRecDepth 20000
set_option maxHeartbeats 16000000
namespace Go.Proofs.YtpodgcpkccpnfaaGreat
open Go.RowKit
structure RowD where
 alg : Nat
 nn : Nat
 many : Nat
 picks : List PickD
 draws : List Int
def rowN (x : RowD) : Nat := 1 + x.nn % 4
def rowProg : Nat → List CD
 | 0 => []
 | k + 1 => rowProg k ++ [(1, 0, 0), (2, 0, 0)]
def rowDraws (x : RowD) : List Int := (tameL (x.draws.take 3000) 1073741823).take 64
def rowSc (x : RowD) (mode room : Int) : ScD := ⟨[⟨1, 1 + ((x.alg % 8 : Nat) : Int), mode, room, 0, 0, 0, 0⟩], List.replicate (rowN x) (rowProg (x.many % 3 + 1)), [], rowDraws x⟩
theorem row_off {w w' : World} {A : Option Addr} {n zb : Nat} {l : List Int} {cs : Array Value} {t : TypeId} (h : Row w A n (IVal l)) (hb : w.heap[zb]? = some (.cells cs t (0, 0))) (hn : ∀ (j : Nat) (x : Int), cs[j]? ≠ some (Value.int .i64 x)) (hk : ∀ k, k < w.heap.size → k ≠ zb → w'.heap[k]? = w.heap[k]?) : Row w' A n (IVal l) := fun i hi => by
 obtain ⟨b, off, e, hc⟩ := h i hi
 refine ⟨b, off, e, (cellE (hk b (cell_lt hc) fun e2 => ?_)).trans hc⟩
 rw [e2, blk_cells hb] at hc
 exact hn _ _ hc
theorem sc0_noint (j : Nat) (x : Int) : (#[.slice none 0 0, .slice none 0 0, .slice none 0 0, .slice none 0 0] : Array Value)[j]? ≠ some (Value.int .i64 x) := fun h => by
 have hm := Array.mem_of_getElem? h
 simp at hm
theorem row_tail {wr W : World} {tb zb tn dc ag : Nat} {mode room : Int} {DA : Option Addr} {tl : List Int} (hu : Up wr W) (h1 : wr.heap.size ≤ tb) (h2 : wr.heap.size ≤ zb) (hz : W.heap[zb]? = some (.cells #[.slice none 0 0, .slice none 0 0, .slice none 0 0, .slice none 0 0] 27 (0, 0))) (ht : W.heap[tb]? = some (.cells #[.int .i64 1, .int .i64 (1 + (ag : Int)), .int .i64 mode, .int .i64 room, .int .i64 0, .int .i64 0, .int .i64 0, .int .i64 0] 46 (0, 0)))
 (hd : Row W DA tn (IVal tl) ∧ tn ≤ dc ∧ (DA = none → dc = 0) ∧ dc ≤ 9223372036854775807) :
 Up wr ((((W.setCell ⟨zb, 0, none⟩ (.slice (some ⟨tb, 0, none⟩) 1 1)).setCell ⟨zb, 1, none⟩ (.slice none 0 0)).setCell ⟨zb, 2, none⟩ (.slice none 0 0)).setCell ⟨zb, 3, none⟩ (.slice DA tn dc)) ∧ wr.heap.size ≤ tb ∧ wr.heap.size ≤ zb ∧
 ((((W.setCell ⟨zb, 0, none⟩ (.slice (some ⟨tb, 0, none⟩) 1 1)).setCell ⟨zb, 1, none⟩ (.slice none 0 0)).setCell ⟨zb, 2, none⟩ (.slice none 0 0)).setCell ⟨zb, 3, none⟩ (.slice DA tn dc)).heap[zb]? = some (.cells #[.slice (some ⟨tb, 0, none⟩) 1 1, .slice none 0 0, .slice none 0 0, .slice DA tn dc] 27 (0, 0)) ∧
 ((((W.setCell ⟨zb, 0, none⟩ (.slice (some ⟨tb, 0, none⟩) 1 1)).setCell ⟨zb, 1, none⟩ (.slice none 0 0)).setCell ⟨zb, 2, none⟩ (.slice none 0 0)).setCell ⟨zb, 3, none⟩ (.slice DA tn dc)).heap[tb]? = some (.cells #[.int .i64 1, .int .i64 (1 + (ag : Int)), .int .i64 mode, .int .i64 room, .int .i64 0, .int .i64 0, .int .i64 0, .int .i64 0] 46 (0, 0)) ∧
 Row ((((W.setCell ⟨zb, 0, none⟩ (.slice (some ⟨tb, 0, none⟩) 1 1)).setCell ⟨zb, 1, none⟩ (.slice none 0 0)).setCell ⟨zb, 2, none⟩ (.slice none 0 0)).setCell ⟨zb, 3, none⟩ (.slice DA tn dc)) DA tn (IVal tl) ∧ tn ≤ dc ∧ (DA = none → dc = 0) ∧ dc ≤ 9223372036854775807 := by
 have hk : ∀ k, k ≠ zb → ((((W.setCell ⟨zb, 0, none⟩ (.slice (some ⟨tb, 0, none⟩) 1 1)).setCell ⟨zb, 1, none⟩ (.slice none 0 0)).setCell ⟨zb, 2, none⟩ (.slice none 0 0)).setCell ⟨zb, 3, none⟩ (.slice DA tn dc)).heap[k]? = W.heap[k]? := fun k hk => (Below.heap_setCell _ ⟨zb, 3, none⟩ _ k hk).trans ((Below.heap_setCell _ ⟨zb, 2, none⟩ _ k hk).trans ((Below.heap_setCell _ ⟨zb, 1, none⟩ _ k hk).trans (Below.heap_setCell _ ⟨zb, 0, none⟩ _ k hk)))
 have hne : tb ≠ zb := fun e => by
  rw [e, hz] at ht
  simp at ht
 refine ⟨Below.setCell (p := ⟨zb, 3, none⟩) (Below.setCell (p := ⟨zb, 2, none⟩) (Below.setCell (p := ⟨zb, 1, none⟩) (Below.setCell (p := ⟨zb, 0, none⟩) hu h2 _) h2 _) h2 _) h2 _, h1, h2, ?_, (hk tb hne).trans ht, row_off hd.1 hz sc0_noint (fun k _ h => hk k h), hd.2⟩
 exact cells_setCell (cells_setCell (cells_setCell (cells_setCell hz 0 _) 1 _) 2 _) 3 _
theorem sc1_noint (tb : Nat) (DA : Option Addr) (tn dc j : Nat) (x : Int) : (#[.slice (some ⟨tb, 0, none⟩) 1 1, .slice none 0 0, .slice none 0 0, .slice DA tn dc] : Array Value)[j]? ≠ some (Value.int .i64 x) := fun h => by
 have hm := Array.mem_of_getElem? h
 simp at hm
theorem infoPr : (Tryz.prog.info? 66).map (fun i => (i.zero, i.size, i.bytes)) = some (some (.slice none 0 0), 1, 24) := by kernel_rfl
structure RowB (w W0 wr : World) (zb : Nat) (c0 c3 pv : Value) (pvs : List Value) (P : List CD) : Prop where
 up : Up w wr
 size : W0.heap.size ≤ wr.heap.size
 fr : ∀ k, k < W0.heap.size → k ≠ zb → wr.heap[k]? = W0.heap[k]?
 blk : wr.heap[zb]? = some (.cells #[c0, pv, .slice none 0 0, c3] 27 (0, 0))
 row : wr.ownsRow W0.heap.size 66 1 pv pvs.length pvs
 pr : ∀ i, i < pvs.length → ProgRow wr W0.heap.size (pvs.getD i nilV) P ∧ ∀ k, (pvs.getD i nilV).ownBlock = some k → pv.ownBlock ≠ some k
theorem RowB.grow {w W0 wr W : World} {zb : Nat} {c0 c3 pv : Value} {pvs : List Value} {P : List CD} (H : RowB w W0 wr zb c0 c3 pv pvs P) (u : Up wr W) : RowB w W0 W zb c0 c3 pv pvs P :=
 ⟨H.up.trans u, Nat.le_trans H.size u.size, fun k h1 h2 => (u.block k (Nat.lt_of_lt_of_le h1 H.size)).trans (H.fr k h1 h2), (u.block _ (Array.getElem?_eq_some_iff.1 H.blk).1).trans H.blk, own_same H.row fun k e => u.block k (World.ownsRow.lt H.row k e).2, fun i hi => ⟨(H.pr i hi).1.up u, (H.pr i hi).2⟩⟩
theorem RowB.push {w W0 wx wy w5 : World} {zb : Nat} {c0 c3 pv p : Value} {pvs : List Value} {P : List CD} {g5 cap5 : Nat} (H : RowB w W0 wx zb c0 c3 pv pvs P) (hw : w.heap.size ≤ zb) (hz : zb < W0.heap.size) (hu : Up wx wy) (hp : ProgRow wy wx.heap.size p P)
 (hown : w5.ownsRow W0.heap.size 66 1 (.slice (some ⟨g5, 0, none⟩) (pvs.length + 1) cap5) (pvs.length + 1) (pvs ++ [p]))
 (hg : (wy.alloc (.cells #[p] 66)).grownBy w5 pv.ownBlock) (hat : pv.ownBlock = some g5 ∨ g5 = (wy.alloc (.cells #[p] 66)).heap.size) :
 RowB w W0 (w5.setCell ⟨zb, 1, none⟩ (.slice (some ⟨g5, 0, none⟩) (pvs.length + 1) cap5)) zb c0 c3 (.slice (some ⟨g5, 0, none⟩) (pvs.length + 1) cap5) (pvs ++ [p]) P := by
 have hbl := (Array.getElem?_eq_some_iff.1 H.blk).1
 have hsz : wx.heap.size ≤ wy.heap.size := hu.size
 have hs1 : (wy.alloc (.cells #[p] 66)).heap.size = wy.heap.size + 1 := by simp
 have hu1 : Up wx (wy.alloc (.cells #[p] 66)) := hu.trans ((Up.refl wy).alloc _)
 have htv : ∀ k, pv.ownBlock = some k → W0.heap.size ≤ k ∧ k < wx.heap.size := fun k e => H.row.lt k e
 have hs0 := H.size
 have hk5 : ∀ k, k < (wy.alloc (.cells #[p] 66)).heap.size → pv.ownBlock ≠ some k → w5.heap[k]? = (wy.alloc (.cells #[p] 66)).heap[k]? := fun k hk hne => hg.block k hk (fun e => hne e.symm)
 have hold : ∀ k, k < W0.heap.size → w5.heap[k]? = wx.heap[k]? := fun k hk => (hk5 k (by omega) (fun e => by have := htv k e; omega)).trans (hu1.block k (by omega))
 have hset : ∀ k, k ≠ zb → (w5.setCell ⟨zb, 1, none⟩ (.slice (some ⟨g5, 0, none⟩) (pvs.length + 1) cap5)).heap[k]? = w5.heap[k]? := fun k hk => Below.heap_setCell w5 ⟨zb, 1, none⟩ _ k hk
 have hs5 : (wy.alloc (.cells #[p] 66)).heap.size ≤ w5.heap.size := hg.size
 refine ⟨?_, by simp; omega, fun k h1 h2 => (hset k h2).trans ((hold k h1).trans (H.fr k h1 h2)), ?_, ?_, fun i hi => ?_⟩
 · refine Below.setCell (p := ⟨zb, 1, none⟩) ?_ hw _
   exact Below.trans (H.up.trans hu1) (Below.mono (B := W0.heap.size) (grownBy_below hg (by omega) fun k e => (htv k e).1) (by omega))
 · exact cells_setCell ((hold zb hz).trans H.blk) 1 _
 · rw [List.length_append, List.length_singleton]
   exact own_same hown fun k e => hset k (fun e2 => by have := (hown.lt k e).1; omega)
 · rw [List.length_append, List.length_singleton] at hi
   rcases Nat.lt_or_ge i pvs.length with hlt | hge
   · rw [getD_app_lt _ _ _ hlt]
     obtain ⟨h1, h2⟩ := H.pr i hlt
     refine ⟨own_same h1 fun k e => ?_, fun k e e2 => ?_⟩
     · have hkl := h1.lt k e
       exact (hset k (by omega)).trans ((hk5 k (by omega) (h2 k e)).trans (hu1.block k hkl.2))
     · have hkl := h1.lt k e
       have e3 : g5 = k := by cases e2; rfl
       rcases hat with q | q
       · exact h2 k e (by rw [q, e3])
       · omega
   · have hie : i = pvs.length := by omega
     subst hie
     rw [getD_app_eq]
     refine ⟨own_same (own_base hp H.size) fun k e => ?_, fun k e e2 => ?_⟩
     · have hkl := hp.lt k e
       have := hk5 k (by omega) (fun e2 => by have := htv k e2; omega)
       exact (hset k (by omega)).trans (this.trans (((Up.refl wy).alloc _).block k hkl.2))
     · have hkl := hp.lt k e
       have e3 : g5 = k := by cases e2; rfl
       rcases hat with q | q
       · have := htv g5 q; omega
       · omega
theorem progs_at {wr : World} {B n : Nat} {pv : Value} {pvs : List Value} {P : List CD} (hrow : wr.ownsRow B 66 1 pv pvs.length pvs) (hpr : ∀ i, i < pvs.length → ProgRow wr B (pvs.getD i nilV) P) (hn : pvs.length = n) (hP : 0 < P.length) (hP2 : P.length ≤ 1000000) : ∃ A c, pv = .slice A n c ∧ ProgsAt wr A (List.replicate n P) := by
 obtain ⟨A, c, rfl, _, _⟩ := own_form hrow
 refine ⟨A, c, by rw [hn], fun i hi => ?_⟩
 rw [List.length_replicate, ← hn] at hi
 have h1 := hpr i hi
 obtain ⟨b, cap, e, hq, hlt, hcap, hat⟩ := h1.at' hP
 have hfl : ∀ l : List Value, l.flatMap (fun v => [v]) = l := fun l => by
  induction l with
  | nil => rfl
  | cons a l ih => rw [List.flatMap_cons, ih]; rfl
 have hrow2 : wr.ownsRow B 66 1 (.slice A pvs.length c) pvs.length (pvs.flatMap (fun v => [v])) := by rw [hfl]; exact hrow
 obtain ⟨b2, cap2, e2, _, hc⟩ := own_flat (f := fun v => [v]) nilV hrow2 (fun _ => rfl) hi
 cases e2
 have h0 := hc 0 (by decide)
 have hd : (List.replicate n P).getD i [] = P := by
  rw [List.getD_eq_getElem?_getD, List.getElem?_replicate, if_pos (by omega)]; rfl
 obtain ⟨A3, c3, e3, h3, h4⟩ := own_form h1
 rw [e] at e3; cases e3
 refine ⟨b2, 0, _, cap, rfl, ?_, by rw [hd]; exact hat, by rw [hd]; exact hcap, by rw [hd]; exact hP2, h4, fun e4 => by cases e4⟩
 rw [hd, ← e]
 rw [Nat.mul_one, Nat.add_zero] at h0
 exact h0
theorem RowB.fin {w W0 wx wF : World} {zb tb n rs dc d3 : Nat} {TH : ThingD} {DA : Option Addr} {dl : List Int} {pv : Value} {pvs : List Value} {P : List CD} (H : RowB w W0 wx zb (.slice (some ⟨tb, 0, none⟩) 1 1) (.slice DA d3 dc) pv pvs P) (hrs : rs < W0.heap.size) (hrz : rs ≠ zb) (hrt : rs ≠ tb) (htz : tb ≠ zb) (htb : W0.heap[tb]? = some (.cells (thingL TH).toArray 46 (0, 0)))
 (hz0 : W0.heap[zb]? = some (.cells #[.slice (some ⟨tb, 0, none⟩) 1 1, .slice none 0 0, .slice none 0 0, .slice DA d3 dc] 27 (0, 0))) (hr : W0.heap[rs]? = some (.cells #[.slice none 0 0, .slice none 0 0, .slice none 0 0, .slice none 0 0] 27 (0, 0)))
 (hdr : Row W0 DA d3 (IVal dl)) (hdl : dl.length = d3) (hdc : d3 ≤ dc ∧ (DA = none → dc = 0) ∧ dc ≤ 9223372036854775807) (hn : pvs.length = n) (hP : 0 < P.length) (hP2 : P.length ≤ 1000000) (hk : ∀ k, k ≠ rs → wF.heap[k]? = wx.heap[k]?) :
 ∃ A c, pv = .slice A n c ∧ ScrAt wF ⟨[TH], List.replicate n P, [], dl⟩ ⟨some ⟨tb, 0, none⟩, 1, A, c, none, 0, DA, dc⟩ := by
 obtain ⟨A, c, e, hpg⟩ := progs_at (own_same H.row fun k e => hk k (by have := (World.ownsRow.lt H.row k e).1; omega)) (fun i hi => own_same (H.pr i hi).1 fun k e => hk k (by have := ((H.pr i hi).1.lt k e).1; omega)) hn hP hP2
 have htl : tb < W0.heap.size := (Array.getElem?_eq_some_iff.1 htb).1
 have htF := (hk tb (Ne.symm hrt)).trans ((H.fr tb htl htz).trans htb)
 have hrx := (H.fr rs hrs hrz).trans hr
 have hdx : Row wx DA d3 (IVal dl) := row_off hdr hz0 (sc1_noint tb DA d3 dc) (fun k h1 h2 => H.fr k h1 h2)
 have hdF : Row wF DA d3 (IVal dl) := row_off hdx hrx sc0_noint (fun k _ h2 => hk k h2)
 refine ⟨A, c, e, ⟨fun i hi => ?_, hpg, fun i hi => by simp at hi, by rw [hdl]; exact hdF, hdc.2.1, by rw [hdl]; exact hdc.1, hdc.2.2⟩⟩
 have hi0 : i = 0 := by simp at hi; omega
 subst hi0
 refine ⟨tb, 0, rfl, ⟨?_, ?_, ?_, ?_⟩, ?_, ?_, ?_, ?_⟩
 all_goals (first | exact blk_cells htF 0 | exact blk_cells htF 1 | exact blk_cells htF 2 | exact blk_cells htF 3 | exact blk_cells htF 4 | exact blk_cells htF 5 | exact blk_cells htF 6 | exact blk_cells htF 7)
theorem rowProg_len : ∀ k, (rowProg k).length = 2 * k
 | 0 => rfl
 | k + 1 => by show (rowProg k ++ _).length = _; rw [List.length_append, rowProg_len k]; rfl
theorem script_any (x : RowD) (KA DA0 : Option Addr) (kn kc dc0 : Nat) (mode room : Int) (w : World) (h8 : x.alg < 256 ∧ x.nn < 256 ∧ x.many < 256) (hd : Row w DA0 x.draws.length (IVal x.draws)) :
 Calls Tryz.prog 18 #[.agg #[.int .u8 x.alg, .int .u8 x.nn, .int .u8 x.many, .slice KA kn kc, .slice DA0 x.draws.length dc0], .int .i64 mode, .int .i64 room] w fun e w' =>
  ∃ a, e = .returned (.agg #[.slice a.TA 1 a.tc, .slice a.PA (rowN x) a.pc, .slice none 0 0, .slice a.DA (rowDraws x).length a.dc]) ∧ ScrAt w' (rowSc x mode room) a ∧ Up w w' := by
 have HTA := hQ' (fun (W : World) (u : Up w W) => tameG_any x.draws DA0 dc0 1073741823 W (hd.up u))
 obtain ⟨alg, nn, many, picks, draws⟩ := x
 obtain ⟨ha, hn, hm⟩ := h8
 dsimp only at ha hn hm hd HTA ⊢
 obtain ⟨dn, hdn⟩ : ∃ n, draws.length = n := ⟨_, rfl⟩
 rw [hdn] at HTA ⊢
 have hx1 : ((alg : Int).tmod 8) = ((alg % 8 : Nat) : Int) := rfl
 have hx2 : ((nn : Int).tmod 4) = ((nn % 4 : Nat) : Int) := rfl
 have hx3 : ((many : Int).tmod 3) = ((many % 3 : Nat) : Int) := rfl
 obtain ⟨ag, hag⟩ : ∃ n, alg % 8 = n := ⟨_, rfl⟩
 obtain ⟨m4, hm4⟩ : ∃ n, nn % 4 = n := ⟨_, rfl⟩
 obtain ⟨m3, hm3⟩ : ∃ n, many % 3 = n := ⟨_, rfl⟩
 rw [hag] at hx1
 rw [hm4] at hx2
 rw [hm3] at hx3
 have hag8 : ag < 8 := by omega
 have hm48 : m4 < 4 := by omega
 have hm38 : m3 < 3 := by omega
 go_enter Tryz.func18, Tryz.ntmps18
 go_upto_region 2 with fail
 have hb1 := heap_alloc_new w (.cells #[.int .u8 alg, .int .u8 nn, .int .u8 many, .slice KA kn kc, .slice DA0 dn dc0] 52)
 have hb1 := (((Up.refl _).alloc (.cells #[.slice none 0 0, .slice none 0 0, .slice none 0 0, .slice none 0 0] 27)).block _ (Array.getElem?_eq_some_iff.1 hb1).1).trans hb1
 have hb2 := heap_alloc_new (w.alloc (.cells #[.int .u8 alg, .int .u8 nn, .int .u8 many, .slice KA kn kc, .slice DA0 dn dc0] 52)) (.cells #[.slice none 0 0, .slice none 0 0, .slice none 0 0, .slice none 0 0] 27)
 have hu := ((Up.refl w).alloc (.cells #[.int .u8 alg, .int .u8 nn, .int .u8 many, .slice KA kn kc, .slice DA0 dn dc0] 52)).alloc (.cells #[.slice none 0 0, .slice none 0 0, .slice none 0 0, .slice none 0 0] 27)
 obtain ⟨wr, hwr⟩ : ∃ x, (w.alloc (.cells #[.int .u8 alg, .int .u8 nn, .int .u8 many, .slice KA kn kc, .slice DA0 dn dc0] 52)).alloc (.cells #[.slice none 0 0, .slice none 0 0, .slice none 0 0, .slice none 0 0] 27) = x := ⟨_, rfl⟩
 rw [World.size_alloc] at hb2
 have HWS := hQ' (show wr.heap.size = w.heap.size + 2 from by rw [← hwr]; simp)
 rw [hwr] at hb1 hb2 hu ⊢
 have HB1 := hQ' hb1
 have HB2 := hQ' hb2
 have HW := hQ' hu
 have HBX := hQ' (fun (W : World) (u : Up w W) (u2 : Up wr W) => show W.cell? ⟨w.heap.size, 0, none⟩ = some (.int .u8 alg) ∧ W.cell? ⟨w.heap.size, 4, none⟩ = some (.slice DA0 dn dc0) from
  ⟨blk_cells ((u2.block _ (Array.getElem?_eq_some_iff.1 hb1).1).trans hb1) 0, blk_cells ((u2.block _ (Array.getElem?_eq_some_iff.1 hb1).1).trans hb1) 4⟩)
 clear hb1 hb2 hwr hu hd
 try clear hb1
 obtain ⟨tl, htl⟩ : ∃ l, tameL (draws.take 3000) 1073741823 = l := ⟨_, rfl⟩
 rw [htl] at HTA
 obtain ⟨tn, htn⟩ : ∃ l, tl.length = l := ⟨_, rfl⟩
 rw [htn] at HTA
 have HTL := hQ' (And.intro htl htn)
 clear htl htn
 go_cut [8] (fun v8 wx => ∃ (tb zb : Nat) (DA : Option Addr) (dc : Nat), v8 = .pointer (some ⟨zb, 0, none⟩) ∧ Hid (Up wr wx ∧ wr.heap.size ≤ tb ∧ wr.heap.size ≤ zb ∧ wx.heap[zb]? = some (.cells #[.slice (some ⟨tb, 0, none⟩) 1 1, .slice none 0 0, .slice none 0 0, .slice DA tn dc] 27 (0, 0)) ∧ wx.heap[tb]? = some (.cells #[.int .i64 1, .int .i64 (1 + (ag : Int)), .int .i64 mode, .int .i64 room, .int .i64 0, .int .i64 0, .int .i64 0, .int .i64 0] 46 (0, 0)) ∧
  Row wx DA tn (IVal tl) ∧ tn ≤ dc ∧ (DA = none → dc = 0) ∧ dc ≤ 9223372036854775807))
 case first =>
  have hi1 : IntKind.i64.wrap (ag : Int) = (ag : Int) := IntWalk.i64_in _ (by omega)
  have hi2 : IntKind.i64.wrap (1 + (ag : Int)) = 1 + (ag : Int) := IntWalk.i64_in _ (by omega)
  have HU := hQ' (show Up wr wr.drew from (Up.refl wr).drew)
  have hS := HBX.out _ (HW.out.trans HU.out) HU.out
  refine wp_region_held_drew (S := fun W => W.cell? ⟨w.heap.size, 0, none⟩ = some (.int .u8 alg) ∧ W.cell? ⟨w.heap.size, 4, none⟩ = some (.slice DA0 dn dc0)) (by kernel_rfl) hS (fun hS0 => ?_)
  clear hS
  refine tkE 0 ?_ rfl (by kernel_rfl) (fun _ _ _ h => h) hS0 ?_ ?_
  rotate_left
  · intro w hSw
    try dsimp only at hSw
    go_simp
    try (with_reducible rfl)
  try simp only [Act.put, sC_I, sC_0, sC_1]
  refine tkE 1 ?_ rfl (by kernel_rfl) (fun _ _ _ h => h) hS0 ?_ ?_
  rotate_left
  · intro w hSw
    try dsimp only at hSw
    go_simp
    try (with_reducible rfl)
  try simp only [Act.put, sC_I, sC_0, sC_1]
  refine tkE 2 ?_ rfl (by kernel_rfl) (fun _ _ _ h => h) hS0 ?_ ?_
  rotate_left
  · intro w hSw
    try dsimp only at hSw
    go_simp
    try (with_reducible rfl)
  try simp only [Act.put, sC_I, sC_0, sC_1]
  refine tkE 3 ?_ rfl (by kernel_rfl) (fun _ _ _ h => h) hS0 ?_ ?_
  rotate_left
  · intro w hSw
    try dsimp only at hSw
    go_simp
    try (with_reducible rfl)
  try simp only [Act.put, sC_I, sC_0, sC_1]
  refine tkE 4 ?_ rfl (by kernel_rfl) (fun _ _ _ h => h) hS0 ?_ ?_
  rotate_left
  · intro w hSw
    try dsimp only at hSw
    go_simp
    try (with_reducible rfl)
  try simp only [Act.put, sC_I, sC_0, sC_1]
  refine tkE 5 ?_ rfl (by kernel_rfl) (fun _ _ _ h => h) hS0 ?_ ?_
  rotate_left
  · intro w hSw
    try dsimp only at hSw
    go_simp
    try (with_reducible rfl)
  try simp only [Act.put, sC_I, sC_0, sC_1]
  refine tkE 6 ?_ rfl (by kernel_rfl) (fun _ _ _ h => h) hS0 ?_ ?_
  rotate_left
  · intro w hSw
    try dsimp only at hSw
    go_simp
    try (with_reducible rfl)
  try simp only [Act.put, sC_I, sC_0, sC_1]
  refine tkE 7 ?_ rfl (by kernel_rfl) (fun _ _ _ h => h) hS0 ?_ ?_
  rotate_left
  · intro w hSw
    try dsimp only at hSw
    go_simp
    try (with_reducible rfl)
  try simp only [Act.put, sC_I, sC_0, sC_1]
  refine tkE 9 ?_ rfl (by kernel_rfl) (fun _ _ _ h => h) hS0 ?_ ?_
  rotate_left
  · intro w hSw
    try dsimp only at hSw
    go_simp
    try (with_reducible rfl)
  try simp only [Act.put, sC_I, sC_0, sC_1]
  refine tkE 10 ?_ rfl (by kernel_rfl) (fun _ _ _ h => h) hS0 ?_ ?_
  rotate_left
  · intro w hSw
    try dsimp only at hSw
    go_simp
    try (with_reducible rfl)
  try simp only [Act.put, sC_I, sC_0, sC_1]
  refine wpAnyH_ready (rs := [8, 11, 13]) (by decide +kernel) (by simp) ?_
  refine AllReadyH.cons rfl (fun K hK => ?_) (AllReadyH.cons rfl (fun K hK => ?_) (AllReadyH.cons rfl (fun K hK => ?_) (AllReadyH.nil)))
  · go_simp
    obtain ⟨W6, hW6⟩ : ∃ x, (wr.alloc (.cells #[.int .i64 1, .int .i64 (1 + (ag : Int)), .int .i64 mode, .int .i64 room, .int .i64 0, .int .i64 0, .int .i64 0, .int .i64 0] 46)).drew = x := ⟨_, rfl⟩
    have huW6 : Up wr W6 := by rw [← hW6]; exact ((Up.refl wr).alloc _).drew
    have hbW6 : W6.heap[wr.heap.size]? = some (.cells #[.int .i64 1, .int .i64 (1 + (ag : Int)), .int .i64 mode, .int .i64 room, .int .i64 0, .int .i64 0, .int .i64 0, .int .i64 0] 46 (0, 0)) := by rw [← hW6]; exact heap_alloc_new wr _
    obtain ⟨tb, hzW6⟩ : ∃ x, wr.heap.size = x := ⟨_, rfl⟩
    rw [hW6]
    rw [hzW6] at hbW6 ⊢
    have HG_tb := hQ' (show wr.heap.size ≤ tb from by rw [← hzW6]; exact Nat.le_refl _)
    have HU := hQ' huW6
    try have HB_tb := hQ' (fun (W : World) (u : Up W6 W) => HB_tb.out W (Up.trans huW6 u))
    try have HB_zb := hQ' (fun (W : World) (u : Up W6 W) => HB_zb.out W (Up.trans huW6 u))
    try have HDR := hQ' (fun (W : World) (u : Up W6 W) => HDR.out W (Up.trans huW6 u))
    have HB_tb := hQ' (fun (W : World) (u : Up W6 W) => show W.heap[tb]? = some (.cells #[.int .i64 1, .int .i64 (1 + (ag : Int)), .int .i64 mode, .int .i64 room, .int .i64 0, .int .i64 0, .int .i64 0, .int .i64 0] 46 (0, 0)) from (u.block _ (Array.getElem?_eq_some_iff.1 hbW6).1).trans hbW6)
    clear hW6 huW6 hbW6 hzW6
    refine hK.out _ _ (HBX.out _ (HW.out.trans HU.out) HU.out) (fun hS3 => ?_)
    clear hK K
    try simp only [Act.put, sC_I, sC_0, sC_1]
    refine wpAnyH_ready (rs := [11, 13]) (by decide +kernel) (by simp) ?_
    refine AllReadyH.cons rfl (fun K hK => ?_) (AllReadyH.cons rfl (fun K hK => ?_) (AllReadyH.nil))
    · go_simp
      refine (HTA.out _ (HW.out.trans HU.out)).mono ?_
      rintro e W7 ⟨DA, dc, rfl, hrow, hle, hnil, hmax, hge, huW7⟩
      have HU := hQ' (HU.out.trans huW7)
      try have HB_tb := hQ' (fun (W : World) (u : Up W7 W) => HB_tb.out W (Up.trans huW7 u))
      try have HB_zb := hQ' (fun (W : World) (u : Up W7 W) => HB_zb.out W (Up.trans huW7 u))
      try have HDR := hQ' (fun (W : World) (u : Up W7 W) => HDR.out W (Up.trans huW7 u))
      have HDR := hQ' (fun (W : World) (u : Up W7 W) => And.intro (Row.up (w' := W) hrow u) (And.intro hle (And.intro hnil hmax)))
      have HGE := hQ' hge
      clear hrow hle hnil hmax hge huW7
      refine hK.out _ _ (HBX.out _ (HW.out.trans HU.out) HU.out) (fun hS4 => ?_)
      clear hK K
      try simp only [Act.put, sC_I, sC_0, sC_1]
      refine tkE 12 ?_ rfl (by kernel_rfl) (fun _ _ _ h => h) hS4 ?_ ?_
      rotate_left
      · intro w hSw
        try dsimp only at hSw
        go_simp
        try (with_reducible rfl)
      try simp only [Act.put, sC_I, sC_0, sC_1]
      refine rdE 13 (by kernel_rfl) rfl fun K hK => ?_
      go_simp
      obtain ⟨W8, hW8⟩ : ∃ x, W7.alloc (.cells #[.slice none 0 0, .slice none 0 0, .slice none 0 0, .slice none 0 0] 27) = x := ⟨_, rfl⟩
      have huW8 : Up W7 W8 := by rw [← hW8]; exact ((Up.refl W7).alloc _)
      have hbW8 : W8.heap[W7.heap.size]? = some (.cells #[.slice none 0 0, .slice none 0 0, .slice none 0 0, .slice none 0 0] 27 (0, 0)) := by rw [← hW8]; exact heap_alloc_new W7 _
      obtain ⟨zb, hzW8⟩ : ∃ x, W7.heap.size = x := ⟨_, rfl⟩
      rw [hW8]
      rw [hzW8] at hbW8 ⊢
      have HG_zb := hQ' (show wr.heap.size ≤ zb from by rw [← hzW8]; exact HU.out.size)
      have HU := hQ' (HU.out.trans huW8)
      try have HB_tb := hQ' (fun (W : World) (u : Up W8 W) => HB_tb.out W (Up.trans huW8 u))
      try have HB_zb := hQ' (fun (W : World) (u : Up W8 W) => HB_zb.out W (Up.trans huW8 u))
      try have HDR := hQ' (fun (W : World) (u : Up W8 W) => HDR.out W (Up.trans huW8 u))
      have HB_zb := hQ' (fun (W : World) (u : Up W8 W) => show W.heap[zb]? = some (.cells #[.slice none 0 0, .slice none 0 0, .slice none 0 0, .slice none 0 0] 27 (0, 0)) from (u.block _ (Array.getElem?_eq_some_iff.1 hbW8).1).trans hbW8)
      clear hW8 huW8 hbW8 hzW8
      refine hK.out _ _ (HBX.out _ (HW.out.trans HU.out) HU.out) (fun hS5 => ?_)
      clear hK K
      try simp only [Act.put, sC_I, sC_0, sC_1]
      refine rdE 14 (by kernel_rfl) rfl fun K hK => ?_
      have hb := HB_zb.out _ (Up.refl _)
      have q0 := blk_cells hb 0
      have q1 := blk_cells hb 1
      have q2 := blk_cells hb 2
      have q3 := blk_cells hb 3
      have f0 := blk_frozen hb 0
      have f1 := blk_frozen hb 1
      have f2 := blk_frozen hb 2
      have f3 := blk_frozen hb 3
      simp only [gA_T, gA_0, gA_S] at q0 q1 q2 q3
      clear hb
      have HFIN := hQ' (row_tail HU.out HG_tb.out HG_zb.out (HB_zb.out _ (Up.refl _)) (HB_tb.out _ (Up.refl _)) (HDR.out _ (Up.refl _)))
      go_simp
      refine hK.out _ _ (HBX.out _ (HW.out.trans HFIN.out.1) HFIN.out.1) (fun hS9 => ?_)
      clear hK K
      try simp only [Act.put, sC_I, sC_0, sC_1]
      refine wpAnyH_done (by kernel_rfl) ?_ _
      try simp only [Act.put, sC_I, sC_0, sC_1, List.getElem_toArray, List.getElem_cons_succ, List.getElem_cons_zero]
      go_wp2_with fail
      go_meet
      exact ⟨tb, zb, DA, dc, rfl, HFIN⟩
    · go_simp
      obtain ⟨W7, hW7⟩ : ∃ x, W6.alloc (.cells #[.slice none 0 0, .slice none 0 0, .slice none 0 0, .slice none 0 0] 27) = x := ⟨_, rfl⟩
      have huW7 : Up W6 W7 := by rw [← hW7]; exact ((Up.refl W6).alloc _)
      have hbW7 : W7.heap[W6.heap.size]? = some (.cells #[.slice none 0 0, .slice none 0 0, .slice none 0 0, .slice none 0 0] 27 (0, 0)) := by rw [← hW7]; exact heap_alloc_new W6 _
      obtain ⟨zb, hzW7⟩ : ∃ x, W6.heap.size = x := ⟨_, rfl⟩
      rw [hW7]
      rw [hzW7] at hbW7 ⊢
      have HG_zb := hQ' (show wr.heap.size ≤ zb from by rw [← hzW7]; exact HU.out.size)
      have HU := hQ' (HU.out.trans huW7)
      try have HB_tb := hQ' (fun (W : World) (u : Up W7 W) => HB_tb.out W (Up.trans huW7 u))
      try have HB_zb := hQ' (fun (W : World) (u : Up W7 W) => HB_zb.out W (Up.trans huW7 u))
      try have HDR := hQ' (fun (W : World) (u : Up W7 W) => HDR.out W (Up.trans huW7 u))
      have HB_zb := hQ' (fun (W : World) (u : Up W7 W) => show W.heap[zb]? = some (.cells #[.slice none 0 0, .slice none 0 0, .slice none 0 0, .slice none 0 0] 27 (0, 0)) from (u.block _ (Array.getElem?_eq_some_iff.1 hbW7).1).trans hbW7)
      clear hW7 huW7 hbW7 hzW7
      refine hK.out _ _ (HBX.out _ (HW.out.trans HU.out) HU.out) (fun hS4 => ?_)
      clear hK K
      try simp only [Act.put, sC_I, sC_0, sC_1]
      refine rdE 11 (by kernel_rfl) rfl fun K hK => ?_
      go_simp
      refine (HTA.out _ (HW.out.trans HU.out)).mono ?_
      rintro e W8 ⟨DA, dc, rfl, hrow, hle, hnil, hmax, hge, huW8⟩
      have HU := hQ' (HU.out.trans huW8)
      try have HB_tb := hQ' (fun (W : World) (u : Up W8 W) => HB_tb.out W (Up.trans huW8 u))
      try have HB_zb := hQ' (fun (W : World) (u : Up W8 W) => HB_zb.out W (Up.trans huW8 u))
      try have HDR := hQ' (fun (W : World) (u : Up W8 W) => HDR.out W (Up.trans huW8 u))
      have HDR := hQ' (fun (W : World) (u : Up W8 W) => And.intro (Row.up (w' := W) hrow u) (And.intro hle (And.intro hnil hmax)))
      have HGE := hQ' hge
      clear hrow hle hnil hmax hge huW8
      refine hK.out _ _ (HBX.out _ (HW.out.trans HU.out) HU.out) (fun hS5 => ?_)
      clear hK K
      try simp only [Act.put, sC_I, sC_0, sC_1]
      refine tkE 12 ?_ rfl (by kernel_rfl) (fun _ _ _ h => h) hS5 ?_ ?_
      rotate_left
      · intro w hSw
        try dsimp only at hSw
        go_simp
        try (with_reducible rfl)
      try simp only [Act.put, sC_I, sC_0, sC_1]
      refine rdE 14 (by kernel_rfl) rfl fun K hK => ?_
      have hb := HB_zb.out _ (Up.refl _)
      have q0 := blk_cells hb 0
      have q1 := blk_cells hb 1
      have q2 := blk_cells hb 2
      have q3 := blk_cells hb 3
      have f0 := blk_frozen hb 0
      have f1 := blk_frozen hb 1
      have f2 := blk_frozen hb 2
      have f3 := blk_frozen hb 3
      simp only [gA_T, gA_0, gA_S] at q0 q1 q2 q3
      clear hb
      have HFIN := hQ' (row_tail HU.out HG_tb.out HG_zb.out (HB_zb.out _ (Up.refl _)) (HB_tb.out _ (Up.refl _)) (HDR.out _ (Up.refl _)))
      go_simp
      refine hK.out _ _ (HBX.out _ (HW.out.trans HFIN.out.1) HFIN.out.1) (fun hS9 => ?_)
      clear hK K
      try simp only [Act.put, sC_I, sC_0, sC_1]
      refine wpAnyH_done (by kernel_rfl) ?_ _
      try simp only [Act.put, sC_I, sC_0, sC_1, List.getElem_toArray, List.getElem_cons_succ, List.getElem_cons_zero]
      go_wp2_with fail
      go_meet
      exact ⟨tb, zb, DA, dc, rfl, HFIN⟩
  · go_simp
    refine (HTA.out _ (HW.out.trans HU.out)).mono ?_
    rintro e W6 ⟨DA, dc, rfl, hrow, hle, hnil, hmax, hge, huW6⟩
    have HU := hQ' (HU.out.trans huW6)
    try have HB_tb := hQ' (fun (W : World) (u : Up W6 W) => HB_tb.out W (Up.trans huW6 u))
    try have HB_zb := hQ' (fun (W : World) (u : Up W6 W) => HB_zb.out W (Up.trans huW6 u))
    try have HDR := hQ' (fun (W : World) (u : Up W6 W) => HDR.out W (Up.trans huW6 u))
    have HDR := hQ' (fun (W : World) (u : Up W6 W) => And.intro (Row.up (w' := W) hrow u) (And.intro hle (And.intro hnil hmax)))
    have HGE := hQ' hge
    clear hrow hle hnil hmax hge huW6
    refine hK.out _ _ (HBX.out _ (HW.out.trans HU.out) HU.out) (fun hS3 => ?_)
    clear hK K
    try simp only [Act.put, sC_I, sC_0, sC_1]
    refine wpAnyH_ready (rs := [8, 13]) (by decide +kernel) (by simp) ?_
    refine AllReadyH.cons rfl (fun K hK => ?_) (AllReadyH.cons rfl (fun K hK => ?_) (AllReadyH.nil))
    · go_simp
      obtain ⟨W7, hW7⟩ : ∃ x, W6.alloc (.cells #[.int .i64 1, .int .i64 (1 + (ag : Int)), .int .i64 mode, .int .i64 room, .int .i64 0, .int .i64 0, .int .i64 0, .int .i64 0] 46) = x := ⟨_, rfl⟩
      have huW7 : Up W6 W7 := by rw [← hW7]; exact ((Up.refl W6).alloc _)
      have hbW7 : W7.heap[W6.heap.size]? = some (.cells #[.int .i64 1, .int .i64 (1 + (ag : Int)), .int .i64 mode, .int .i64 room, .int .i64 0, .int .i64 0, .int .i64 0, .int .i64 0] 46 (0, 0)) := by rw [← hW7]; exact heap_alloc_new W6 _
      obtain ⟨tb, hzW7⟩ : ∃ x, W6.heap.size = x := ⟨_, rfl⟩
      rw [hW7]
      rw [hzW7] at hbW7 ⊢
      have HG_tb := hQ' (show wr.heap.size ≤ tb from by rw [← hzW7]; exact HU.out.size)
      have HU := hQ' (HU.out.trans huW7)
      try have HB_tb := hQ' (fun (W : World) (u : Up W7 W) => HB_tb.out W (Up.trans huW7 u))
      try have HB_zb := hQ' (fun (W : World) (u : Up W7 W) => HB_zb.out W (Up.trans huW7 u))
      try have HDR := hQ' (fun (W : World) (u : Up W7 W) => HDR.out W (Up.trans huW7 u))
      have HB_tb := hQ' (fun (W : World) (u : Up W7 W) => show W.heap[tb]? = some (.cells #[.int .i64 1, .int .i64 (1 + (ag : Int)), .int .i64 mode, .int .i64 room, .int .i64 0, .int .i64 0, .int .i64 0, .int .i64 0] 46 (0, 0)) from (u.block _ (Array.getElem?_eq_some_iff.1 hbW7).1).trans hbW7)
      clear hW7 huW7 hbW7 hzW7
      refine hK.out _ _ (HBX.out _ (HW.out.trans HU.out) HU.out) (fun hS4 => ?_)
      clear hK K
      try simp only [Act.put, sC_I, sC_0, sC_1]
      refine tkE 12 ?_ rfl (by kernel_rfl) (fun _ _ _ h => h) hS4 ?_ ?_
      rotate_left
      · intro w hSw
        try dsimp only at hSw
        go_simp
        try (with_reducible rfl)
      try simp only [Act.put, sC_I, sC_0, sC_1]
      refine rdE 13 (by kernel_rfl) rfl fun K hK => ?_
      go_simp
      obtain ⟨W8, hW8⟩ : ∃ x, W7.alloc (.cells #[.slice none 0 0, .slice none 0 0, .slice none 0 0, .slice none 0 0] 27) = x := ⟨_, rfl⟩
      have huW8 : Up W7 W8 := by rw [← hW8]; exact ((Up.refl W7).alloc _)
      have hbW8 : W8.heap[W7.heap.size]? = some (.cells #[.slice none 0 0, .slice none 0 0, .slice none 0 0, .slice none 0 0] 27 (0, 0)) := by rw [← hW8]; exact heap_alloc_new W7 _
      obtain ⟨zb, hzW8⟩ : ∃ x, W7.heap.size = x := ⟨_, rfl⟩
      rw [hW8]
      rw [hzW8] at hbW8 ⊢
      have HG_zb := hQ' (show wr.heap.size ≤ zb from by rw [← hzW8]; exact HU.out.size)
      have HU := hQ' (HU.out.trans huW8)
      try have HB_tb := hQ' (fun (W : World) (u : Up W8 W) => HB_tb.out W (Up.trans huW8 u))
      try have HB_zb := hQ' (fun (W : World) (u : Up W8 W) => HB_zb.out W (Up.trans huW8 u))
      try have HDR := hQ' (fun (W : World) (u : Up W8 W) => HDR.out W (Up.trans huW8 u))
      have HB_zb := hQ' (fun (W : World) (u : Up W8 W) => show W.heap[zb]? = some (.cells #[.slice none 0 0, .slice none 0 0, .slice none 0 0, .slice none 0 0] 27 (0, 0)) from (u.block _ (Array.getElem?_eq_some_iff.1 hbW8).1).trans hbW8)
      clear hW8 huW8 hbW8 hzW8
      refine hK.out _ _ (HBX.out _ (HW.out.trans HU.out) HU.out) (fun hS5 => ?_)
      clear hK K
      try simp only [Act.put, sC_I, sC_0, sC_1]
      refine rdE 14 (by kernel_rfl) rfl fun K hK => ?_
      have hb := HB_zb.out _ (Up.refl _)
      have q0 := blk_cells hb 0
      have q1 := blk_cells hb 1
      have q2 := blk_cells hb 2
      have q3 := blk_cells hb 3
      have f0 := blk_frozen hb 0
      have f1 := blk_frozen hb 1
      have f2 := blk_frozen hb 2
      have f3 := blk_frozen hb 3
      simp only [gA_T, gA_0, gA_S] at q0 q1 q2 q3
      clear hb
      have HFIN := hQ' (row_tail HU.out HG_tb.out HG_zb.out (HB_zb.out _ (Up.refl _)) (HB_tb.out _ (Up.refl _)) (HDR.out _ (Up.refl _)))
      go_simp
      refine hK.out _ _ (HBX.out _ (HW.out.trans HFIN.out.1) HFIN.out.1) (fun hS9 => ?_)
      clear hK K
      try simp only [Act.put, sC_I, sC_0, sC_1]
      refine wpAnyH_done (by kernel_rfl) ?_ _
      try simp only [Act.put, sC_I, sC_0, sC_1, List.getElem_toArray, List.getElem_cons_succ, List.getElem_cons_zero]
      go_wp2_with fail
      go_meet
      exact ⟨tb, zb, DA, dc, rfl, HFIN⟩
    · go_simp
      obtain ⟨W7, hW7⟩ : ∃ x, W6.alloc (.cells #[.slice none 0 0, .slice none 0 0, .slice none 0 0, .slice none 0 0] 27) = x := ⟨_, rfl⟩
      have huW7 : Up W6 W7 := by rw [← hW7]; exact ((Up.refl W6).alloc _)
      have hbW7 : W7.heap[W6.heap.size]? = some (.cells #[.slice none 0 0, .slice none 0 0, .slice none 0 0, .slice none 0 0] 27 (0, 0)) := by rw [← hW7]; exact heap_alloc_new W6 _
      obtain ⟨zb, hzW7⟩ : ∃ x, W6.heap.size = x := ⟨_, rfl⟩
      rw [hW7]
      rw [hzW7] at hbW7 ⊢
      have HG_zb := hQ' (show wr.heap.size ≤ zb from by rw [← hzW7]; exact HU.out.size)
      have HU := hQ' (HU.out.trans huW7)
      try have HB_tb := hQ' (fun (W : World) (u : Up W7 W) => HB_tb.out W (Up.trans huW7 u))
      try have HB_zb := hQ' (fun (W : World) (u : Up W7 W) => HB_zb.out W (Up.trans huW7 u))
      try have HDR := hQ' (fun (W : World) (u : Up W7 W) => HDR.out W (Up.trans huW7 u))
      have HB_zb := hQ' (fun (W : World) (u : Up W7 W) => show W.heap[zb]? = some (.cells #[.slice none 0 0, .slice none 0 0, .slice none 0 0, .slice none 0 0] 27 (0, 0)) from (u.block _ (Array.getElem?_eq_some_iff.1 hbW7).1).trans hbW7)
      clear hW7 huW7 hbW7 hzW7
      refine hK.out _ _ (HBX.out _ (HW.out.trans HU.out) HU.out) (fun hS4 => ?_)
      clear hK K
      try simp only [Act.put, sC_I, sC_0, sC_1]
      refine rdE 8 (by kernel_rfl) rfl fun K hK => ?_
      go_simp
      obtain ⟨W8, hW8⟩ : ∃ x, W7.alloc (.cells #[.int .i64 1, .int .i64 (1 + (ag : Int)), .int .i64 mode, .int .i64 room, .int .i64 0, .int .i64 0, .int .i64 0, .int .i64 0] 46) = x := ⟨_, rfl⟩
      have huW8 : Up W7 W8 := by rw [← hW8]; exact ((Up.refl W7).alloc _)
      have hbW8 : W8.heap[W7.heap.size]? = some (.cells #[.int .i64 1, .int .i64 (1 + (ag : Int)), .int .i64 mode, .int .i64 room, .int .i64 0, .int .i64 0, .int .i64 0, .int .i64 0] 46 (0, 0)) := by rw [← hW8]; exact heap_alloc_new W7 _
      obtain ⟨tb, hzW8⟩ : ∃ x, W7.heap.size = x := ⟨_, rfl⟩
      rw [hW8]
      rw [hzW8] at hbW8 ⊢
      have HG_tb := hQ' (show wr.heap.size ≤ tb from by rw [← hzW8]; exact HU.out.size)
      have HU := hQ' (HU.out.trans huW8)
      try have HB_tb := hQ' (fun (W : World) (u : Up W8 W) => HB_tb.out W (Up.trans huW8 u))
      try have HB_zb := hQ' (fun (W : World) (u : Up W8 W) => HB_zb.out W (Up.trans huW8 u))
      try have HDR := hQ' (fun (W : World) (u : Up W8 W) => HDR.out W (Up.trans huW8 u))
      have HB_tb := hQ' (fun (W : World) (u : Up W8 W) => show W.heap[tb]? = some (.cells #[.int .i64 1, .int .i64 (1 + (ag : Int)), .int .i64 mode, .int .i64 room, .int .i64 0, .int .i64 0, .int .i64 0, .int .i64 0] 46 (0, 0)) from (u.block _ (Array.getElem?_eq_some_iff.1 hbW8).1).trans hbW8)
      clear hW8 huW8 hbW8 hzW8
      refine hK.out _ _ (HBX.out _ (HW.out.trans HU.out) HU.out) (fun hS5 => ?_)
      clear hK K
      try simp only [Act.put, sC_I, sC_0, sC_1]
      refine tkE 12 ?_ rfl (by kernel_rfl) (fun _ _ _ h => h) hS5 ?_ ?_
      rotate_left
      · intro w hSw
        try dsimp only at hSw
        go_simp
        try (with_reducible rfl)
      try simp only [Act.put, sC_I, sC_0, sC_1]
      refine rdE 14 (by kernel_rfl) rfl fun K hK => ?_
      have hb := HB_zb.out _ (Up.refl _)
      have q0 := blk_cells hb 0
      have q1 := blk_cells hb 1
      have q2 := blk_cells hb 2
      have q3 := blk_cells hb 3
      have f0 := blk_frozen hb 0
      have f1 := blk_frozen hb 1
      have f2 := blk_frozen hb 2
      have f3 := blk_frozen hb 3
      simp only [gA_T, gA_0, gA_S] at q0 q1 q2 q3
      clear hb
      have HFIN := hQ' (row_tail HU.out HG_tb.out HG_zb.out (HB_zb.out _ (Up.refl _)) (HB_tb.out _ (Up.refl _)) (HDR.out _ (Up.refl _)))
      go_simp
      refine hK.out _ _ (HBX.out _ (HW.out.trans HFIN.out.1) HFIN.out.1) (fun hS9 => ?_)
      clear hK K
      try simp only [Act.put, sC_I, sC_0, sC_1]
      refine wpAnyH_done (by kernel_rfl) ?_ _
      try simp only [Act.put, sC_I, sC_0, sC_1, List.getElem_toArray, List.getElem_cons_succ, List.getElem_cons_zero]
      go_wp2_with fail
      go_meet
      exact ⟨tb, zb, DA, dc, rfl, HFIN⟩
  · go_simp
    obtain ⟨W6, hW6⟩ : ∃ x, (wr.alloc (.cells #[.slice none 0 0, .slice none 0 0, .slice none 0 0, .slice none 0 0] 27)).drew = x := ⟨_, rfl⟩
    have huW6 : Up wr W6 := by rw [← hW6]; exact ((Up.refl wr).alloc _).drew
    have hbW6 : W6.heap[wr.heap.size]? = some (.cells #[.slice none 0 0, .slice none 0 0, .slice none 0 0, .slice none 0 0] 27 (0, 0)) := by rw [← hW6]; exact heap_alloc_new wr _
    obtain ⟨zb, hzW6⟩ : ∃ x, wr.heap.size = x := ⟨_, rfl⟩
    rw [hW6]
    rw [hzW6] at hbW6 ⊢
    have HG_zb := hQ' (show wr.heap.size ≤ zb from by rw [← hzW6]; exact Nat.le_refl _)
    have HU := hQ' huW6
    try have HB_tb := hQ' (fun (W : World) (u : Up W6 W) => HB_tb.out W (Up.trans huW6 u))
    try have HB_zb := hQ' (fun (W : World) (u : Up W6 W) => HB_zb.out W (Up.trans huW6 u))
    try have HDR := hQ' (fun (W : World) (u : Up W6 W) => HDR.out W (Up.trans huW6 u))
    have HB_zb := hQ' (fun (W : World) (u : Up W6 W) => show W.heap[zb]? = some (.cells #[.slice none 0 0, .slice none 0 0, .slice none 0 0, .slice none 0 0] 27 (0, 0)) from (u.block _ (Array.getElem?_eq_some_iff.1 hbW6).1).trans hbW6)
    clear hW6 huW6 hbW6 hzW6
    refine hK.out _ _ (HBX.out _ (HW.out.trans HU.out) HU.out) (fun hS3 => ?_)
    clear hK K
    try simp only [Act.put, sC_I, sC_0, sC_1]
    refine wpAnyH_ready (rs := [8, 11]) (by decide +kernel) (by simp) ?_
    refine AllReadyH.cons rfl (fun K hK => ?_) (AllReadyH.cons rfl (fun K hK => ?_) (AllReadyH.nil))
    · go_simp
      obtain ⟨W7, hW7⟩ : ∃ x, W6.alloc (.cells #[.int .i64 1, .int .i64 (1 + (ag : Int)), .int .i64 mode, .int .i64 room, .int .i64 0, .int .i64 0, .int .i64 0, .int .i64 0] 46) = x := ⟨_, rfl⟩
      have huW7 : Up W6 W7 := by rw [← hW7]; exact ((Up.refl W6).alloc _)
      have hbW7 : W7.heap[W6.heap.size]? = some (.cells #[.int .i64 1, .int .i64 (1 + (ag : Int)), .int .i64 mode, .int .i64 room, .int .i64 0, .int .i64 0, .int .i64 0, .int .i64 0] 46 (0, 0)) := by rw [← hW7]; exact heap_alloc_new W6 _
      obtain ⟨tb, hzW7⟩ : ∃ x, W6.heap.size = x := ⟨_, rfl⟩
      rw [hW7]
      rw [hzW7] at hbW7 ⊢
      have HG_tb := hQ' (show wr.heap.size ≤ tb from by rw [← hzW7]; exact HU.out.size)
      have HU := hQ' (HU.out.trans huW7)
      try have HB_tb := hQ' (fun (W : World) (u : Up W7 W) => HB_tb.out W (Up.trans huW7 u))
      try have HB_zb := hQ' (fun (W : World) (u : Up W7 W) => HB_zb.out W (Up.trans huW7 u))
      try have HDR := hQ' (fun (W : World) (u : Up W7 W) => HDR.out W (Up.trans huW7 u))
      have HB_tb := hQ' (fun (W : World) (u : Up W7 W) => show W.heap[tb]? = some (.cells #[.int .i64 1, .int .i64 (1 + (ag : Int)), .int .i64 mode, .int .i64 room, .int .i64 0, .int .i64 0, .int .i64 0, .int .i64 0] 46 (0, 0)) from (u.block _ (Array.getElem?_eq_some_iff.1 hbW7).1).trans hbW7)
      clear hW7 huW7 hbW7 hzW7
      refine hK.out _ _ (HBX.out _ (HW.out.trans HU.out) HU.out) (fun hS4 => ?_)
      clear hK K
      try simp only [Act.put, sC_I, sC_0, sC_1]
      refine rdE 11 (by kernel_rfl) rfl fun K hK => ?_
      go_simp
      refine (HTA.out _ (HW.out.trans HU.out)).mono ?_
      rintro e W8 ⟨DA, dc, rfl, hrow, hle, hnil, hmax, hge, huW8⟩
      have HU := hQ' (HU.out.trans huW8)
      try have HB_tb := hQ' (fun (W : World) (u : Up W8 W) => HB_tb.out W (Up.trans huW8 u))
      try have HB_zb := hQ' (fun (W : World) (u : Up W8 W) => HB_zb.out W (Up.trans huW8 u))
      try have HDR := hQ' (fun (W : World) (u : Up W8 W) => HDR.out W (Up.trans huW8 u))
      have HDR := hQ' (fun (W : World) (u : Up W8 W) => And.intro (Row.up (w' := W) hrow u) (And.intro hle (And.intro hnil hmax)))
      have HGE := hQ' hge
      clear hrow hle hnil hmax hge huW8
      refine hK.out _ _ (HBX.out _ (HW.out.trans HU.out) HU.out) (fun hS5 => ?_)
      clear hK K
      try simp only [Act.put, sC_I, sC_0, sC_1]
      refine tkE 12 ?_ rfl (by kernel_rfl) (fun _ _ _ h => h) hS5 ?_ ?_
      rotate_left
      · intro w hSw
        try dsimp only at hSw
        go_simp
        try (with_reducible rfl)
      try simp only [Act.put, sC_I, sC_0, sC_1]
      refine rdE 14 (by kernel_rfl) rfl fun K hK => ?_
      have hb := HB_zb.out _ (Up.refl _)
      have q0 := blk_cells hb 0
      have q1 := blk_cells hb 1
      have q2 := blk_cells hb 2
      have q3 := blk_cells hb 3
      have f0 := blk_frozen hb 0
      have f1 := blk_frozen hb 1
      have f2 := blk_frozen hb 2
      have f3 := blk_frozen hb 3
      simp only [gA_T, gA_0, gA_S] at q0 q1 q2 q3
      clear hb
      have HFIN := hQ' (row_tail HU.out HG_tb.out HG_zb.out (HB_zb.out _ (Up.refl _)) (HB_tb.out _ (Up.refl _)) (HDR.out _ (Up.refl _)))
      go_simp
      refine hK.out _ _ (HBX.out _ (HW.out.trans HFIN.out.1) HFIN.out.1) (fun hS9 => ?_)
      clear hK K
      try simp only [Act.put, sC_I, sC_0, sC_1]
      refine wpAnyH_done (by kernel_rfl) ?_ _
      try simp only [Act.put, sC_I, sC_0, sC_1, List.getElem_toArray, List.getElem_cons_succ, List.getElem_cons_zero]
      go_wp2_with fail
      go_meet
      exact ⟨tb, zb, DA, dc, rfl, HFIN⟩
    · go_simp
      refine (HTA.out _ (HW.out.trans HU.out)).mono ?_
      rintro e W7 ⟨DA, dc, rfl, hrow, hle, hnil, hmax, hge, huW7⟩
      have HU := hQ' (HU.out.trans huW7)
      try have HB_tb := hQ' (fun (W : World) (u : Up W7 W) => HB_tb.out W (Up.trans huW7 u))
      try have HB_zb := hQ' (fun (W : World) (u : Up W7 W) => HB_zb.out W (Up.trans huW7 u))
      try have HDR := hQ' (fun (W : World) (u : Up W7 W) => HDR.out W (Up.trans huW7 u))
      have HDR := hQ' (fun (W : World) (u : Up W7 W) => And.intro (Row.up (w' := W) hrow u) (And.intro hle (And.intro hnil hmax)))
      have HGE := hQ' hge
      clear hrow hle hnil hmax hge huW7
      refine hK.out _ _ (HBX.out _ (HW.out.trans HU.out) HU.out) (fun hS4 => ?_)
      clear hK K
      try simp only [Act.put, sC_I, sC_0, sC_1]
      refine rdE 8 (by kernel_rfl) rfl fun K hK => ?_
      go_simp
      obtain ⟨W8, hW8⟩ : ∃ x, W7.alloc (.cells #[.int .i64 1, .int .i64 (1 + (ag : Int)), .int .i64 mode, .int .i64 room, .int .i64 0, .int .i64 0, .int .i64 0, .int .i64 0] 46) = x := ⟨_, rfl⟩
      have huW8 : Up W7 W8 := by rw [← hW8]; exact ((Up.refl W7).alloc _)
      have hbW8 : W8.heap[W7.heap.size]? = some (.cells #[.int .i64 1, .int .i64 (1 + (ag : Int)), .int .i64 mode, .int .i64 room, .int .i64 0, .int .i64 0, .int .i64 0, .int .i64 0] 46 (0, 0)) := by rw [← hW8]; exact heap_alloc_new W7 _
      obtain ⟨tb, hzW8⟩ : ∃ x, W7.heap.size = x := ⟨_, rfl⟩
      rw [hW8]
      rw [hzW8] at hbW8 ⊢
      have HG_tb := hQ' (show wr.heap.size ≤ tb from by rw [← hzW8]; exact HU.out.size)
      have HU := hQ' (HU.out.trans huW8)
      try have HB_tb := hQ' (fun (W : World) (u : Up W8 W) => HB_tb.out W (Up.trans huW8 u))
      try have HB_zb := hQ' (fun (W : World) (u : Up W8 W) => HB_zb.out W (Up.trans huW8 u))
      try have HDR := hQ' (fun (W : World) (u : Up W8 W) => HDR.out W (Up.trans huW8 u))
      have HB_tb := hQ' (fun (W : World) (u : Up W8 W) => show W.heap[tb]? = some (.cells #[.int .i64 1, .int .i64 (1 + (ag : Int)), .int .i64 mode, .int .i64 room, .int .i64 0, .int .i64 0, .int .i64 0, .int .i64 0] 46 (0, 0)) from (u.block _ (Array.getElem?_eq_some_iff.1 hbW8).1).trans hbW8)
      clear hW8 huW8 hbW8 hzW8
      refine hK.out _ _ (HBX.out _ (HW.out.trans HU.out) HU.out) (fun hS5 => ?_)
      clear hK K
      try simp only [Act.put, sC_I, sC_0, sC_1]
      refine tkE 12 ?_ rfl (by kernel_rfl) (fun _ _ _ h => h) hS5 ?_ ?_
      rotate_left
      · intro w hSw
        try dsimp only at hSw
        go_simp
        try (with_reducible rfl)
      try simp only [Act.put, sC_I, sC_0, sC_1]
      refine rdE 14 (by kernel_rfl) rfl fun K hK => ?_
      have hb := HB_zb.out _ (Up.refl _)
      have q0 := blk_cells hb 0
      have q1 := blk_cells hb 1
      have q2 := blk_cells hb 2
      have q3 := blk_cells hb 3
      have f0 := blk_frozen hb 0
      have f1 := blk_frozen hb 1
      have f2 := blk_frozen hb 2
      have f3 := blk_frozen hb 3
      simp only [gA_T, gA_0, gA_S] at q0 q1 q2 q3
      clear hb
      have HFIN := hQ' (row_tail HU.out HG_tb.out HG_zb.out (HB_zb.out _ (Up.refl _)) (HB_tb.out _ (Up.refl _)) (HDR.out _ (Up.refl _)))
      go_simp
      refine hK.out _ _ (HBX.out _ (HW.out.trans HFIN.out.1) HFIN.out.1) (fun hS9 => ?_)
      clear hK K
      try simp only [Act.put, sC_I, sC_0, sC_1]
      refine wpAnyH_done (by kernel_rfl) ?_ _
      try simp only [Act.put, sC_I, sC_0, sC_1, List.getElem_toArray, List.getElem_cons_succ, List.getElem_cons_zero]
      go_wp2_with fail
      go_meet
      exact ⟨tb, zb, DA, dc, rfl, HFIN⟩
 case rest =>
  obtain ⟨tb, zb, DA, dc, rfl, HC⟩ := hcut
  obtain ⟨d3, hd3⟩ : ∃ n, min tn 64 = n := ⟨_, rfl⟩
  have HD3 := hQ' hd3
  have HMX := hQ' (show tn ≤ 3000 from by rw [← HTL.out.2, ← HTL.out.1]; unfold tameL; rw [List.length_map, List.length_take]; omega)
  have HLT := hQ' (show (tl.take 64).length = d3 from by rw [List.length_take, HTL.out.2, ← hd3]; exact Nat.min_comm _ _)
  have HIV := hQ' (fun (i : Nat) (hi : i < d3) => show IVal (tl.take 64) i = IVal tl i from by
   unfold IVal
   have : i < 64 := by omega
   rw [List.getD_eq_getElem?_getD, List.getD_eq_getElem?_getD, List.getElem?_take, if_pos this])
  clear hd3 hx1
  have hb := HC.out.2.2.2.1
  have q3 := blk_cells hb 3
  have f3 := blk_frozen hb 3
  simp only [gA_T, gA_0, gA_S] at q3
  clear hb
  go_upto_if 33 with fail
  go_cut [] (fun wx => Hid (Up wr wx ∧ wr.heap.size ≤ zb ∧ wx.heap[zb]? = some (.cells #[.slice (some ⟨tb, 0, none⟩) 1 1, .slice none 0 0, .slice none 0 0, .slice DA d3 dc] 27 (0, 0)) ∧ wx.heap[tb]? = some (.cells #[.int .i64 1, .int .i64 (1 + (ag : Int)), .int .i64 mode, .int .i64 room, .int .i64 0, .int .i64 0, .int .i64 0, .int .i64 0] 46 (0, 0)) ∧ Row wx DA d3 (IVal (tl.take 64)) ∧ d3 ≤ dc ∧ (DA = none → dc = 0) ∧ dc ≤ 9223372036854775807))
  case first =>
   rcases Nat.lt_or_ge 64 tn with h | h
   · have h64 : (64 : Int) < tn := by omega
     have hcap : (64 : Int) ≤ dc := by have := HC.out.2.2.2.2.2.2.1; omega
     have hd : d3 = 64 := by have := HD3.out; omega
     subst hd
     have huf := Below.setCell (p := ⟨zb, 3, none⟩) HC.out.1 HC.out.2.2.1 (.slice DA 64 dc)
     have hzb := cells_setCell HC.out.2.2.2.1 3 (.slice DA 64 dc)
     have hne : tb ≠ zb := fun e => by
      have h1 := HC.out.2.2.2.2.1
      rw [e, HC.out.2.2.2.1] at h1
      simp at h1
     have htb := (Below.heap_setCell wc ⟨zb, 3, none⟩ (.slice DA 64 dc) tb hne).trans HC.out.2.2.2.2.1
     have hrow : Row wc DA 64 (IVal (tl.take 64)) := fun i hi => by
      rw [HIV.out i hi]; exact HC.out.2.2.2.2.2.1 i (by omega)
     have hrow2 : Row (wc.setCell ⟨zb, 3, none⟩ (.slice DA 64 dc)) DA 64 (IVal (tl.take 64)) := row_off hrow HC.out.2.2.2.1 (sc1_noint tb DA tn dc) (fun k _ hk => Below.heap_setCell wc ⟨zb, 3, none⟩ (.slice DA 64 dc) k hk)
     have HFIN := hQ' (And.intro huf (And.intro HC.out.2.2.1 (And.intro hzb (And.intro htb (And.intro hrow2 (And.intro (show 64 ≤ dc by omega) HC.out.2.2.2.2.2.2.2))))))
     clear huf hzb hne htb hrow hrow2 h
     go_wp2_with fail
     go_meet
     exact HFIN
   · have h64 : ¬ (64 : Int) < tn := by omega
     have hd : d3 = tn := by have := HD3.out; omega
     subst hd
     have HFIN := hQ' (And.intro HC.out.1 (And.intro HC.out.2.2.1 (And.intro HC.out.2.2.2.1 (And.intro HC.out.2.2.2.2.1 (And.intro (show Row wc DA d3 (IVal (tl.take 64)) from fun i hi => by rw [HIV.out i hi]; exact HC.out.2.2.2.2.2.1 i hi) HC.out.2.2.2.2.2.2)))))
     clear h
     go_wp2_with fail
     go_meet
     exact HFIN
  case rest =>
   clear HC HIV q3 f3 HTA HBX
   have HC := hcut
   clear hcut
   have hn1 : (0 : Int) ≤ m4 := by omega
   have HUC := hQ' (HW.out.trans HC.out.1)
   have HWR := hQ' (show wr.heap.size = w.heap.size + 2 from HWS.out)
   have HSZ := hQ' (show w.heap.size ≤ zb ∧ zb < wc.heap.size from ⟨by have := HW.out.size; have := HC.out.2.1; omega, (Array.getElem?_eq_some_iff.1 HC.out.2.2.1).1⟩)
   have HB0 : Hid (RowB w wc wc zb (.slice (some ⟨tb, 0, none⟩) 1 1) (.slice DA d3 dc) (.slice none 0 0) [] (rowProg (m3 + 1))) := hQ' ⟨HUC.out, Nat.le_refl _, fun k _ _ => rfl, HC.out.2.2.1, own_nil _ _ _ _, fun i hi => (by simp at hi)⟩
   have HMB := hQ' HB1.out
   obtain ⟨i0, hi', hz0, hz1, hz2⟩ := info_parts infoCl
   have HIE := hQ' hi'
   have HZ0 := hQ' hz0
   have HZ1 := hQ' hz1
   have HZ2 := hQ' hz2
   obtain ⟨j0, hi', hz0, hz1, hz2⟩ := info_parts infoPr
   have HJE := hQ' hi'
   have HY0 := hQ' hz0
   have HY1 := hQ' hz1
   have HY2 := hQ' hz2
   clear hi' hz0 hz1 hz2
   obtain ⟨nn1, hnn1⟩ : ∃ n, 1 + m4 = n := ⟨_, rfl⟩
   have hnc : (1 : Int) + m4 = nn1 := by omega
   rw [hnc]
   go_wp2_with fail
   go_loopw [9] (fun iv wx => ∃ i : Nat, i ≤ nn1 ∧ iv = .int .i64 i ∧ Hid (∃ pv pvs, pvs.length = i ∧ RowB w wc wx zb (.slice (some ⟨tb, 0, none⟩) 1 1) (.slice DA d3 dc) pv pvs (rowProg (m3 + 1)))) (fun iv _ => nn1 - (intOf iv).toNat)
   case atStart => exact ⟨0, by omega, rfl, hQ' ⟨_, [], rfl, HB0.out⟩⟩
   case round =>
    rename World => wx
    obtain ⟨i, hi, rfl, HH⟩ := hrel
    obtain ⟨pv, pvs, hpl, hR⟩ := HH.out
    have HR := hQ' hR
    have HPL := hQ' hpl
    clear HH hR hpl
    obtain ⟨Ap, cp, rfl, _, _⟩ := own_form HR.out.row
    by_cases hlt : i < nn1
    · have hii : (i : Int) < nn1 := by omega
      have hi9 : i ≤ 5 := by omega
      have HI := hQ' (And.intro hlt hi9)
      have HMA := hQ' (fun (W : World) (u : Up wx W) => show W.cell? ⟨w.heap.size, 2, none⟩ = some (.int .u8 many) from by
       have h1 := (HR.out.fr w.heap.size (by have := HSZ.out; omega) (by have := HSZ.out; have := HC.out.2.1; have := (Array.getElem?_eq_some_iff.1 HB1.out).1; omega)).trans ((HC.out.1.block _ (Array.getElem?_eq_some_iff.1 HB1.out).1).trans HB1.out)
       exact blk_cells ((u.block _ (Array.getElem?_eq_some_iff.1 h1).1).trans h1) 2)
      have HRX := hQ' (fun (W : World) (u : Up wx W) => HR.out.grow u)
      clear hi9
      go_wp2_with fail
      go_loopw [10, 11] (fun pw kw wy => ∃ k : Nat, k ≤ m3 + 1 ∧ kw = .int .i64 k ∧ Hid (ProgRow wy wx.heap.size pw (rowProg k)) ∧ Hid (Up wx wy)) (fun _ kw _ => m3 + 1 - (intOf kw).toNat)
      case atStart => exact ⟨0, by omega, rfl, hQ' (own_nil _ _ _ _), hQ' (Up.refl _)⟩
      case round =>
       rename World => wy
       obtain ⟨k, hk, rfl, HP, HU⟩ := hrel
       have c2 := HMA.out _ HU.out
       by_cases hkl : k ≤ m3
       · have hkk : (k : Int) ≤ m3 := by omega
         have HK := hQ' (And.intro hkl hm38)
         have HLP := hQ' (rowProg_len k)
         obtain ⟨Aq, cq, rfl, _, _⟩ := own_form HP.out
         have HP2 : Hid (wy.ownsRow wx.heap.size 65 3 (.slice Aq (2 * k) cq) (2 * k) ((rowProg k).flatMap callL)) := hQ' (by have := HP.out; unfold ProgRow at this; rw [HLP.out] at this; exact this)
         rw [HLP.out]
         go_wp2_with (at_builtin; refine wpList_append_lies _ rfl (.tmp 51) (.tmp 54) 66 rfl wx.heap.size 65 i0 (.agg #[.int .i64 0, .int .i64 0, .int .i64 0]) 3 24 Tryz.underlying66 HIE.out HZ0.out HZ1.out HZ2.out rfl (by decide) _ (2 * k) ((rowProg k).flatMap callL) rfl (own_up HP2.out ((Up.refl _).alloc _)) ⟨wy.heap.size, 0, none⟩ 2 2 [.int .i64 1, .int .i64 0, .int .i64 0, .int .i64 2, .int .i64 0, .int .i64 0] rfl rfl (cells_new wy [.int .i64 1, .int .i64 0, .int .i64 0, .int .i64 2, .int .i64 0, .int .i64 0] 65) (by simp [Value.oneCell']) (by decide) (by have := HK.out; unfold maxLen; omega) (by have := HK.out; omega) (by have := HU.out.size; simp; omega) _ rfl ?_)
         intro g1 cap w1 hown1 hgrow hat hlt1
         have HO2 := hQ' (show ProgRow w1 wx.heap.size (.slice (some ⟨g1, 0, none⟩) (2 * k + 2) cap) (rowProg (k + 1)) from by
          unfold ProgRow
          rw [rowProg_len, show 2 * (k + 1) = 2 * k + 2 by omega]
          show w1.ownsRow _ _ _ _ _ ((rowProg k ++ [(1, 0, 0), (2, 0, 0)]).flatMap callL)
          rw [List.flatMap_append]
          exact hown1)
         have HU2 := hQ' (show Up wx w1 from (Up.alloc HU.out _).grown hgrow (by have := HU.out.size; simp; omega) (own_ge HP2.out))
         clear hown1 hgrow hat hlt1 c2
         go_wp2_with fail
         go_roundw
         case rel => exact ⟨k + 1, by have := HK.out; omega, by first | rfl | exact cnt_next k (by have := HK.out; omega), HO2, HU2⟩
         case measure => first | exact cnt_down2 k (m3 + 1) (by have := HK.out; omega) | exact cnt_down k (m3 + 1) (by have := HK.out; omega) (by have := HK.out; omega)
       · have hkk : ¬ (k : Int) ≤ m3 := by omega
         have hke : k = m3 + 1 := by omega
         subst hke
         have HRY := hQ' (HRX.out _ HU.out)
         have HRZ := hQ' HR.out
         obtain ⟨pn, hpn⟩ : ∃ n, pvs.length = n := ⟨_, rfl⟩
         have hb := HRY.out.blk
         have k1 := blk_cells hb 1
         have f1 := blk_frozen hb 1
         simp only [gA_T, gA_0, gA_S] at k1
         have HPN := hQ' (show pvs.length + 1 ≤ maxLen ∧ (pvs.length + 1) * 24 ≤ 140737488355328 from by have := HI.out; have := HPL.out; unfold maxLen; omega)
         have HW0 := hQ' (show wc.heap.size ≤ wy.heap.size from HRY.out.size)
         obtain ⟨Aq, cq, rfl, _, _⟩ := own_form HP.out
         have HPP := hQ' HP.out
         obtain ⟨ql, hql⟩ : ∃ n, (rowProg (m3 + 1)).length = n := ⟨_, rfl⟩
         rw [hql] at HPP ⊢
         clear hql
         clear hb hpn
         go_wp2_with (at_builtin; refine wpList_append_lies _ rfl (.tmp 57) (.tmp 59) 23 rfl wc.heap.size 66 j0 (.slice none 0 0) 1 24 Tryz.underlying23 HJE.out HY0.out HY1.out HY2.out rfl (by decide) _ pvs.length pvs rfl (own_up HRY.out.row ((Up.refl _).alloc _)) ⟨wy.heap.size, 0, none⟩ 1 1 [.slice Aq ql cq] rfl rfl (cells_new wy [.slice Aq ql cq] 66) (by intro u hu; rw [List.mem_singleton] at hu; subst hu; rfl) (by decide) HPN.out.1 HPN.out.2 (by have := HW0.out; simp; omega) _ rfl ?_; intro g5 cap5 w5 hown5 hg5 hat5 hlt5; have HPU := hQ' (HRZ.out.push HSZ.out.1 HSZ.out.2 HU.out HPP.out hown5 hg5 hat5); have hbz := (hg5.block zb (by have := HSZ.out.2; have := HW0.out; simp; omega) (fun e => by have := (World.ownsRow.lt HRY.out.row zb e.symm).1; have := HSZ.out.2; omega)).trans ((((Up.refl wy).alloc _).block zb (by have := HSZ.out.2; have := HW0.out; omega)).trans HRY.out.blk); have k1 := blk_cells hbz 1; have f1 := blk_frozen hbz 1; simp only [gA_T, gA_0, gA_S] at k1; clear hbz hown5 hg5 hat5 hlt5)
         clear k1 f1
         go_wp2_with fail
         go_roundw
         case rel => exact ⟨i + 1, HI.out.1, by first | rfl | exact cnt_next i (by have := HI.out; omega), hQ' ⟨_, pvs ++ [.slice Aq ql cq], by rw [List.length_append, HPL.out]; rfl, HPU.out⟩⟩
         case measure => first | exact cnt_down2 i nn1 HI.out.1 | exact cnt_down i nn1 HI.out.1 (by have := HI.out; omega)
    · have hnl : ¬ (i : Int) < nn1 := by omega
      have hie : i = nn1 := by omega
      subst hie
      have HFI := hQ' HR.out
      have hb := HR.out.blk
      have q0 := blk_cells hb 0
      have q1 := blk_cells hb 1
      have q2 := blk_cells hb 2
      have q3 := blk_cells hb 3
      simp only [gA_T, gA_0, gA_S] at q0 q1 q2 q3
      clear hb
      have hsz2 : wr.heap.size = w.heap.size + 2 := HWR.out
      have hrs : wc.heap[w.heap.size + 1]? = some (.cells #[.slice none 0 0, .slice none 0 0, .slice none 0 0, .slice none 0 0] 27 (0, 0)) := (HC.out.1.block _ (Array.getElem?_eq_some_iff.1 HB2.out).1).trans HB2.out
      have hrl := (Array.getElem?_eq_some_iff.1 hrs).1
      have hrx := (HR.out.fr _ hrl (by have := HC.out.2.1; omega)).trans hrs
      have htz : tb ≠ zb := fun e => by
       have h1 := HC.out.2.2.2.1
       rw [e, HC.out.2.2.1] at h1
       simp at h1
      have hrt : w.heap.size + 1 ≠ tb := fun e => by
       have h1 := HC.out.2.2.2.1
       rw [← e, hrs] at h1
       simp at h1
      have hdl : (tl.take 64).length = d3 := HLT.out
      have HFI := hQ' (fun (wF : World) (hk : ∀ k, k ≠ w.heap.size + 1 → wF.heap[k]? = wx.heap[k]?) => HR.out.fin (TH := ⟨1, 1 + (ag : Int), mode, room, 0, 0, 0, 0⟩) hrl (by have := HC.out.2.1; omega) hrt htz HC.out.2.2.2.1 HC.out.2.2.1 hrs HC.out.2.2.2.2.1 hdl HC.out.2.2.2.2.2 HPL.out (by rw [rowProg_len]; omega) (by rw [rowProg_len]; omega) hk)
      have z0 := blk_cells hrx 0
      have z1 := blk_cells hrx 1
      have z2 := blk_cells hrx 2
      have z3 := blk_cells hrx 3
      have g0 := blk_frozen hrx 0
      have g1 := blk_frozen hrx 1
      have g2 := blk_frozen hrx 2
      have g3 := blk_frozen hrx 3
      simp only [gA_T, gA_0, gA_S] at z0 z1 z2 z3
      have HFB := hQ' (cells_setCell (cells_setCell (cells_setCell (cells_setCell hrx 0 (.slice (some ⟨tb, 0, none⟩) 1 1)) 1 (.slice Ap pvs.length cp)) 2 (.slice none 0 0)) 3 (.slice DA d3 dc))
      have HUF := hQ' HR.out.up
      have HGE := hQ' (show w.heap.size ≤ w.heap.size + 1 from Nat.le_succ _)
      have HDL := hQ' hdl
      clear hrs hrl hrx htz hrt hdl hsz2
      go_wp2_with fail
      refine bodyPost_ret (v := .agg #[.slice (some ⟨tb, 0, none⟩) 1 1, .slice Ap pvs.length cp, .slice none 0 0, .slice DA d3 dc]) ?_ rfl ?_
      · exact results_cell_row rfl _ _ (w.heap.size + 1) 27 _ _ _ rfl HFB.out Tryz.underlying27 rfl (by kernel_rfl)
      · obtain ⟨A, c, e, hsc⟩ := HFI.out ((((wx.setCell ⟨w.heap.size + 1, 0, none⟩ (.slice (some ⟨tb, 0, none⟩) 1 1)).setCell ⟨w.heap.size + 1, 1, none⟩ (.slice Ap pvs.length cp)).setCell ⟨w.heap.size + 1, 2, none⟩ (.slice none 0 0)).setCell ⟨w.heap.size + 1, 3, none⟩ (.slice DA d3 dc)) (fun k hk => (Below.heap_setCell _ ⟨w.heap.size + 1, 3, none⟩ _ k hk).trans ((Below.heap_setCell _ ⟨w.heap.size + 1, 2, none⟩ _ k hk).trans ((Below.heap_setCell _ ⟨w.heap.size + 1, 1, none⟩ _ k hk).trans (Below.heap_setCell wx ⟨w.heap.size + 1, 0, none⟩ _ k hk))))
        have HSC := hQ' hsc
        clear hsc
        have hE : rowSc ⟨alg, nn, many, picks, draws⟩ mode room = ⟨[⟨1, 1 + (ag : Int), mode, room, 0, 0, 0, 0⟩], List.replicate i (rowProg (m3 + 1)), [], tl.take 64⟩ := by
         unfold rowSc rowN rowDraws
         dsimp only
         rw [hm4, hnn1, HTL.out.1, hag, hm3]
        rw [e]
        refine ⟨⟨some ⟨tb, 0, none⟩, 1, A, c, none, 0, DA, dc⟩, ?_, ?_, ?_⟩
        · unfold rowN rowDraws
          dsimp only
          rw [hm4, hnn1, HTL.out.1, HDL.out]
        · rw [hE]
          rw [e] at HSC
          exact HSC.out
        · repeat (refine Below.setCell (p := ⟨w.heap.size + 1, _, none⟩) ?_ HGE.out _)
          exact HUF.out
end Go.Proofs.YtpodgcpkccpnfaaGreat

