/-
  PROVED: TopDoors returns true for every input, and leaves its arguments as they were. No condition.
-/
import Derived.Test.YtpodgcpkccpnfaaGreatRows
import Derived.Test.YtpodgcpkccpnfaaGreatPk01
import Derived.Test.YtpodgcpkccpnfaaGreatPk18
import Derived.Test.YtpodgcpkccpnfaaGreatPk28
set_option linter.unusedVariables false
set_option linter.unusedSimpArgs false
set_option maxRecDepth 20000
set_option maxHeartbeats 16000000
namespace Go.Proofs.YtpodgcpkccpnfaaGreat
open Go.RowKit
theorem cnt_next' (i : Nat) (h : i ≤ 100000000) : Value.int .i64 (wrap64 ((i : Int) + 1)) = .int .i64 ((i + 1 : Nat) : Int) := by
 rw [IntWalk.wrap64_in _ (by omega)]; rfl
theorem cnt_down' (i n : Nat) (h : i < n) (h2 : i ≤ 100000000) : n - (intOf (.int .i64 (wrap64 ((i : Int) + 1)))).toNat < n - (intOf (.int .i64 (i : Int))).toNat := by
 rw [IntWalk.wrap64_in _ (by omega)]
 show n - ((i : Int) + 1).toNat < n - (i : Int).toNat
 omega
theorem sl4_noint (A0 A1 A2 A3 : Option Addr) (n0 n1 n2 n3 c0 c1 c2 c3 j : Nat) (x : Int) : (#[.slice A0 n0 c0, .slice A1 n1 c1, .slice A2 n2 c2, .slice A3 n3 c3] : Array Value)[j]? ≠ some (Value.int .i64 x) := fun h => by
 have hm := Array.mem_of_getElem? h
 simp at hm
theorem scr_put {w w4 : World} {sc : ScD} {a : ScA} {sb kc : Nat} {K A0 A1 A2 A3 : Option Addr} {n0 n1 n2 n3 c0 c1 c2 c3 : Nat} {pl : List PickD} (hs : ScrAt w sc a) (u : Up w w4) (hsb : w.heap.size ≤ sb) (hp : PicksAt w4 K pl) (hb : w4.heap[sb]? = some (.cells #[.slice A0 n0 c0, .slice A1 n1 c1, .slice A2 n2 c2, .slice A3 n3 c3] 27 (0, 0))) (v : Value) :
 ScrAt (w4.setCell ⟨sb, 2, none⟩ v) { sc with picks := pl } { a with KA := K, kc := kc } := by
 have hk : ∀ k, k ≠ sb → (w4.setCell ⟨sb, 2, none⟩ v).heap[k]? = w4.heap[k]? := fun k h => Below.heap_setCell w4 ⟨sb, 2, none⟩ v k h
 have hu : Up w (w4.setCell ⟨sb, 2, none⟩ v) := Below.setCell (p := ⟨sb, 2, none⟩) u hsb v
 have h := hs.up hu
 refine ⟨h.th, h.pr, fun i hi => ?_, h.dr, h.dn⟩
 obtain ⟨b, off, e, h0, h1, h2⟩ := hp i hi
 have hne : b ≠ sb := fun e2 => by
  rw [e2, blk_cells hb] at h0
  exact sl4_noint _ _ _ _ _ _ _ _ _ _ _ _ _ _ h0
 exact ⟨b, off, e, (cellE (hk b hne)).trans h0, (cellE (hk b hne)).trans h1, (cellE (hk b hne)).trans h2⟩
theorem evs_cases {x : RowD} {room : Int} (hE : ErrsP (doorEvs x room)) (hT : ∀ e, e ∈ doorEvs x room → ∃ t c : Nat, EvT (rowScP x 1 room).progs e t c) {i : Nat} (hi : i < (doorEvs x room).length) :
 ∃ x0 x1 x2 x4 x5 x6 : Int, ∃ c : Nat, (doorEvs x room).getD i ev0 = ⟨x0, x1, x2, c, x4, x5, x6⟩ ∧ (x1 ≠ 2 ∨ (x1 = 2 ∧ x5 = 0) ∨ (x1 = 2 ∧ x5 = 11 ∧ (c : Int).tmod 2 = 0) ∨ (x1 = 2 ∧ x5 = 9 ∧ (c : Int).tmod 2 = 1)) := by
 have hm := getD_mem (doorEvs x room) hi ev0
 obtain ⟨t, c, h1⟩ := hT _ hm
 have h2 := hE _ hm
 generalize (doorEvs x room).getD i ev0 = e at *
 obtain ⟨x0, x1, x2, x3, x4, x5, x6⟩ := e
 obtain ⟨-, h3, -⟩ := h1
 have h3 : x3 = (c : Int) := h3
 subst h3
 dsimp only at h2
 refine ⟨x0, x1, x2, x4, x5, x6, c, rfl, ?_⟩
 have hm2 : (c : Int).tmod 2 = ((c % 2 : Nat) : Int) := rfl
 by_cases h4 : x1 = 2
 · by_cases h5 : x5 = 0
   · exact .inr (.inl ⟨h4, h5⟩)
   · obtain ⟨g1, g2⟩ := h2 h4 h5
     rcases Nat.mod_two_eq_zero_or_one c with h6 | h6
     · exact .inr (.inr (.inl ⟨h4, g1 (by omega), by rw [hm2, h6]; rfl⟩))
     · exact .inr (.inr (.inr ⟨h4, g2 (by omega), by rw [hm2, h6]; rfl⟩))
 · exact .inl h4
section
variable {x : RowD} {rm : Int} {a : ScA}
theorem door_run (ha : x.alg = 0) (hr : 1 ≤ rm ∧ rm ≤ 1048576) (W : World) (hs : ScrAt W (rowScP x 1 rm) a) : Calls Tryz.prog 9 #[.agg #[.slice a.TA 1 a.tc, .slice a.PA (rowN x) a.pc, .slice a.KA (picksL (rowN x) x.picks).length a.kc, .slice a.DA (rowDraws x).length a.dc]] W fun e w' =>
 ∃ A0 c0 nw A2 n2 c2 A3 n3 c3 A4 n4 c4, e = .returned (.tuple #[.agg #[.slice A0 (doorEvs x rm).length c0, .int .i64 nw, .slice A2 n2 c2, .slice A3 n3 c3, .slice A4 n4 c4], .int .i64 0]) ∧ EvsAt w' A0 (doorEvs x rm) ∧ Up W w' ∧ (doorEvs x rm).length ≤ 100000000 := by
 have hS := rowScP_lk ha rm hr
 have h := lk_run hS W hs
 rw [hS.len] at h
 refine Calls.mono (show Calls Tryz.prog 9 _ W _ from h) ?_
 rintro e w' ⟨A0, c0, A2, n2, c2, A3, n3, c3, A4, n4, c4, q, rfl, hrow, hq, hu, hl⟩
 obtain ⟨A, c, e2, hat⟩ := EvRow.at' hrow
 cases e2
 exact ⟨_, _, _, _, _, _, _, _, _, _, _, _, rfl, hat, hu, hl⟩
theorem door_in (ha : x.alg = 0) (hr : 1 ≤ rm ∧ rm ≤ 1048576) : ∀ i, i < (doorEvs x rm).length → ∃ t c, EvT (rowScP x 1 rm).progs ((doorEvs x rm).getD i ev0) t c := fun i hi => (door_law ha rm hr).1 _ (getD_mem _ hi _)
theorem door_alg (ha : x.alg = 0) : (((rowScP x 1 rm).things).getD 0 thing0).alg = 1 := by
 show 1 + ((x.alg % 8 : Nat) : Int) = 1
 rw [ha]; rfl
theorem door_doors (ha : x.alg = 0) (hr : 1 ≤ rm ∧ rm ≤ 1048576) (W : World) (hs : ScrAt W (rowScP x 1 rm) a) (A : Option Addr) (cp : Nat) (hl : (doorEvs x rm).length ≤ 100000000) (hat : EvsAt W A (doorEvs x rm)) :
 Calls Tryz.prog 20 #[.agg #[.slice a.TA 1 a.tc, .slice a.PA (rowN x) a.pc, .slice a.KA (picksL (rowN x) x.picks).length a.kc, .slice a.DA (rowDraws x).length a.dc], .slice A (doorEvs x rm).length cp, .int .i64 0] W fun e w' => e = .returned (.bool true) ∧ Up W w' := by
 have hS := rowScP_lk ha rm hr
 have h := doors_any (doorEvs x rm) A cp W hs hl hat (door_in ha hr) (by rw [hS.len]; have := rowN_in x; omega) (Nat.lt_succ_self 0) rfl (door_alg ha) (door_law ha rm hr).2.1
 rw [hS.len] at h
 exact h
theorem door_excl (ha : x.alg = 0) (hr : 1 ≤ rm ∧ rm ≤ 1048576) (W : World) (hs : ScrAt W (rowScP x 1 rm) a) (A : Option Addr) (cp : Nat) (hl : (doorEvs x rm).length ≤ 100000000) (hat : EvsAt W A (doorEvs x rm)) :
 Calls Tryz.prog 19 #[.agg #[.slice a.TA 1 a.tc, .slice a.PA (rowN x) a.pc, .slice a.KA (picksL (rowN x) x.picks).length a.kc, .slice a.DA (rowDraws x).length a.dc], .slice A (doorEvs x rm).length cp, .int .i64 0] W fun e w' => e = .returned (.bool true) ∧ Up W w' := by
 have hS := rowScP_lk ha rm hr
 have h := excl_any (doorEvs x rm) A cp W hs hl hat (door_in ha hr) (by rw [hS.len]; have := rowN_in x; omega) (Nat.lt_succ_self 0) rfl (door_law ha rm hr).2.2.1
 rw [hS.len] at h
 exact h
end
theorem doors_any' (alg nn many : Nat) (picks : List PickD) (draws : List Int) (KA DA0 : Option Addr) (kc dc0 room : Nat) (w : World) (h8 : alg < 256 ∧ nn < 256 ∧ many < 256) (hr : room < 65536) (hk : PicksAt w KA picks) (hd : Row w DA0 draws.length (IVal draws)) :
 Calls Tryz.prog 6 #[.agg #[.int .u8 alg, .int .u8 nn, .int .u8 many, .slice KA picks.length kc, .slice DA0 draws.length dc0], .int .u16 room] w fun e w' => e = .returned (.bool true) ∧ Up w w' := by
 obtain ⟨rm, hrm⟩ : ∃ r : Int, 1 + (room : Int) = r := ⟨_, rfl⟩
 have hr2 : 1 ≤ rm ∧ rm ≤ 1048576 := by omega
 obtain ⟨x, hx⟩ : ∃ x : RowD, (⟨0, nn, many, picks, draws⟩ : RowD) = x := ⟨_, rfl⟩
 have hxa : x.alg = 0 := by rw [← hx]
 have hxp : x.picks = picks := by rw [← hx]
 have HSC := hQ' (fun (W : World) (u : Up w W) => show Calls Tryz.prog 18 #[.agg #[.int .u8 0, .int .u8 nn, .int .u8 many, .slice KA picks.length kc, .slice DA0 draws.length dc0], .int .i64 1, .int .i64 rm] W _ from script_any ⟨0, nn, many, picks, draws⟩ KA DA0 picks.length kc dc0 1 rm W ⟨show 0 < 256 by decide, h8.2.1, h8.2.2⟩ (hd.up u))
 rw [hx] at HSC
 have HPK := hQ' (fun (W : World) (u : Up w W) => picks_any picks KA kc (rowN x) W (by have := rowN_in x; omega) (hk.up u))
 have HRUN := hQ' (fun (W : World) (a : ScA) (hs : ScrAt W (rowScP x 1 rm) a) => door_run hxa hr2 W hs)
 have HDO := hQ' (fun (W : World) (a : ScA) (hs : ScrAt W (rowScP x 1 rm) a) (A : Option Addr) (cp : Nat) (hl : (doorEvs x rm).length ≤ 100000000) (hat : EvsAt W A (doorEvs x rm)) => door_doors hxa hr2 W hs A cp hl hat)
 have HEX := hQ' (fun (W : World) (a : ScA) (hs : ScrAt W (rowScP x 1 rm) a) (A : Option Addr) (cp : Nat) (hl : (doorEvs x rm).length ≤ 100000000) (hat : EvsAt W A (doorEvs x rm)) => door_excl hxa hr2 W hs A cp hl hat)
 have HEV := hQ' (fun (i : Nat) (hi : i < (doorEvs x rm).length) => evs_cases (door_law hxa rm hr2).2.2.2 (door_law hxa rm hr2).1 hi)
 have HEQ := hQ' (show ({ rowSc x 1 rm with picks := picksL (rowN x) picks } : ScD) = rowScP x 1 rm from by unfold rowScP; rw [hxp])
 rw [hxp] at HRUN HDO HEX
 have hw : wrap64 (1 + (room : Int)) = rm := by rw [← hrm]; exact IntWalk.wrap64_in _ (by omega)
 have hcv : IntKind.i64.wrap (room : Int) = (room : Int) := IntWalk.i64_in _ (by omega)
 obtain ⟨pn, hpn⟩ : ∃ n, rowN x = n := ⟨_, rfl⟩
 obtain ⟨kn, hkn⟩ : ∃ n, picks.length = n := ⟨_, rfl⟩
 obtain ⟨dn, hdn⟩ : ∃ n, draws.length = n := ⟨_, rfl⟩
 rw [hkn, hdn]
 rw [hkn, hdn] at HSC
 rw [hkn] at HPK
 rw [hpn] at HSC HPK HRUN HDO HEX HEQ
 obtain ⟨pl, hpl⟩ : ∃ l, picksL pn picks = l := ⟨_, rfl⟩
 rw [hpl] at HPK HRUN HDO HEX HEQ
 obtain ⟨kl, hkl⟩ : ∃ l, pl.length = l := ⟨_, rfl⟩
 rw [hkl] at HPK HRUN HDO HEX
 obtain ⟨dl, hdl⟩ : ∃ l, (rowDraws x).length = l := ⟨_, rfl⟩
 rw [hdl] at HSC HRUN HDO HEX
 generalize rowSc x 1 rm = SC0 at *
 generalize rowScP x 1 rm = SC at *
 generalize doorEvs x rm = EVS at *
 obtain ⟨en, hen⟩ : ∃ n, EVS.length = n := ⟨_, rfl⟩
 rw [hen] at HRUN HDO HEX HEV
 have hb1 := heap_alloc_new w (.cells #[.int .u8 0, .int .u8 nn, .int .u8 many, .slice KA kn kc, .slice DA0 dn dc0] 52)
 have hu1 := (Up.refl w).alloc (.cells #[.int .u8 0, .int .u8 nn, .int .u8 many, .slice KA kn kc, .slice DA0 dn dc0] 52)
 obtain ⟨W1, hW1⟩ : ∃ x, w.alloc (.cells #[.int .u8 0, .int .u8 nn, .int .u8 many, .slice KA kn kc, .slice DA0 dn dc0] 52) = x := ⟨_, rfl⟩
 rw [hW1] at hb1 hu1
 have HU1 := hQ' hu1
 have HX := hQ' (fun (W : World) (u : Up W1 W) => show W.heap[w.heap.size]? = some (.cells #[.int .u8 0, .int .u8 nn, .int .u8 many, .slice KA kn kc, .slice DA0 dn dc0] 52 (0, 0)) from (u.block _ (Array.getElem?_eq_some_iff.1 hb1).1).trans hb1)
 have HW1 := hQ' hW1
 have HEN := hQ' hen
 have HAL := hQ' (fun W => alive_any W)
 clear hb1 hu1 hW1 hk hd hrm h8 hkn hdn hpn hpl hkl hdl hen hr2 hxa hxp hx hr
 go_enter Tryz.func6, Tryz.ntmps6
 go_upto_region 2 with fail
 rw [HW1.out]
 clear HW1
 have hx := HX.out _ (Up.refl _)
 have c0 := blk_cells hx 0
 have c1 := blk_cells hx 1
 have c2 := blk_cells hx 2
 have c3 := blk_cells hx 3
 have c4 := blk_cells hx 4
 simp only [gA_T, gA_0, gA_S] at c0 c1 c2 c3 c4
 clear hx
 go_wp2_with fail
 refine (HSC.out _ HU1.out).mono ?_
 rintro e w2 ⟨a, rfl, hsc, hu2⟩
 clear c0 c1 c2 c3 c4 hw hcv
 have hb3 := heap_alloc_new w2 (.cells #[.slice a.TA 1 a.tc, .slice a.PA pn a.pc, .slice none 0 0, .slice a.DA dl a.dc] 27)
 have hu3 := (Up.refl w2).alloc (.cells #[.slice a.TA 1 a.tc, .slice a.PA pn a.pc, .slice none 0 0, .slice a.DA dl a.dc] 27)
 obtain ⟨W3, hW3⟩ : ∃ x, w2.alloc (.cells #[.slice a.TA 1 a.tc, .slice a.PA pn a.pc, .slice none 0 0, .slice a.DA dl a.dc] 27) = x := ⟨_, rfl⟩
 obtain ⟨sb, hsb⟩ : ∃ x, w2.heap.size = x := ⟨_, rfl⟩
 rw [hW3] at hb3 hu3
 rw [hsb] at hb3
 have HW3 := hQ' hW3
 have HSB := hQ' hsb
 have HB3 := hQ' (fun (W : World) (u : Up W3 W) => show W.heap[sb]? = some (.cells #[.slice a.TA 1 a.tc, .slice a.PA pn a.pc, .slice none 0 0, .slice a.DA dl a.dc] 27 (0, 0)) from (u.block _ (Array.getElem?_eq_some_iff.1 hb3).1).trans hb3)
 have HSC2 := hQ' hsc
 have HU2 := hQ' hu2
 have HU3 := hQ' hu3
 have hx := HX.out _ (hu2.trans hu3)
 have c3 := blk_cells hx 3
 simp only [gA_T, gA_0, gA_S] at c3
 have s1 := blk_cells hb3 1
 simp only [gA_T, gA_0, gA_S] at s1
 clear hx hb3 hu3 hu2 hsc hW3 hsb
 have HC3 := hQ' c3
 have HS1 := hQ' s1
 clear c3 s1
 go_upto_region 3 with fail
 rw [HW3.out, HSB.out]
 have c3 := HC3.out
 have s1 := HS1.out
 go_wp2_with fail
 refine (HPK.out _ (HU1.out.trans (HU2.out.trans HU3.out))).mono ?_
 rintro e w4 ⟨KA', c', rfl, hpk, hu4⟩
 clear c3 s1
 have hb4 := HB3.out _ hu4
 have HS5 := hQ' (scr_put (kc := c') HSC2.out (HU3.out.trans hu4) (Nat.le_of_eq HSB.out) hpk hb4 (.slice KA' kl c'))
 have HB5 := hQ' (cells_setCell hb4 2 (.slice KA' kl c'))
 have HU5 := hQ' (show Up w (w4.setCell ⟨sb, 2, none⟩ (.slice KA' kl c')) from Below.setCell (p := ⟨sb, 2, none⟩) (HU1.out.trans (HU2.out.trans (HU3.out.trans hu4))) (by have := HU1.out.size; have := HU2.out.size; have := HSB.out; show w.heap.size ≤ sb; omega) _)
 have y2 := blk_cells hb4 2
 have f2 := blk_frozen hb4 2
 simp only [gA_T, gA_0, gA_S] at y2
 clear hb4 hpk hu4
 go_upto_region 4 with fail
 clear y2 f2
 obtain ⟨W5, hW5⟩ : ∃ x, w4.setCell ⟨sb, 2, none⟩ (.slice KA' kl c') = x := ⟨_, rfl⟩
 rw [hW5] at HS5 HB5 HU5 ⊢
 clear hW5
 rw [HEQ.out] at HS5
 simp only [sC_I, sC_1, sC_0] at HB5
 have HK5 := hQ' (fun (W : World) (u : Up W5 W) => show (W.cell? ⟨sb, 0, none⟩ = some (.slice a.TA 1 a.tc) ∧ W.cell? ⟨sb, 1, none⟩ = some (.slice a.PA pn a.pc)) ∧ W.cell? ⟨sb, 2, none⟩ = some (.slice KA' kl c') ∧ W.cell? ⟨sb, 3, none⟩ = some (.slice a.DA dl a.dc) from by
  have h := (u.block _ (Array.getElem?_eq_some_iff.1 HB5.out).1).trans HB5.out
  exact ⟨⟨blk_cells h 0, blk_cells h 1⟩, blk_cells h 2, blk_cells h 3⟩)
 clear HB5 HB3 HX HSC HPK HSC2 HU2 HU3 HW3 HSB HC3 HS1 HEQ
 obtain ⟨⟨s0, s1⟩, s2, s3⟩ := HK5.out _ (Up.refl _)
 go_wp2_with fail
 refine (HRUN.out _ _ HS5.out).mono ?_
 rintro e w6 ⟨A0, c0, nw, A2, n2, c2, A3, n3, c3, A4, n4, c4, rfl, hat, hu6, hel⟩
 clear s0 s1 s2 s3
 have hb7 := heap_alloc_new w6 (.cells #[.slice A0 en c0, .int .i64 nw, .slice A2 n2 c2, .slice A3 n3 c3, .slice A4 n4 c4] 32)
 have hu7 := (Up.refl w6).alloc (.cells #[.slice A0 en c0, .int .i64 nw, .slice A2 n2 c2, .slice A3 n3 c3, .slice A4 n4 c4] 32)
 obtain ⟨W7, hW7⟩ : ∃ x, w6.alloc (.cells #[.slice A0 en c0, .int .i64 nw, .slice A2 n2 c2, .slice A3 n3 c3, .slice A4 n4 c4] 32) = x := ⟨_, rfl⟩
 obtain ⟨rb, hrb⟩ : ∃ x, w6.heap.size = x := ⟨_, rfl⟩
 rw [hW7] at hb7 hu7
 rw [hrb] at hb7
 have HR7 := hQ' (fun (W : World) (u : Up W7 W) => show W.cell? ⟨rb, 0, none⟩ = some (.slice A0 en c0) from blk_cells ((u.block _ (Array.getElem?_eq_some_iff.1 hb7).1).trans hb7) 0)
 have HAT := hQ' (fun (W : World) (u : Up W7 W) => hat.up (hu7.trans u))
 have HS7 := hQ' (fun (W : World) (u : Up W7 W) => HS5.out.up (hu6.trans (hu7.trans u)))
 have HK7 := hQ' (fun (W : World) (u : Up W7 W) => HK5.out W (hu6.trans (hu7.trans u)))
 have HU7 := hQ' (HU5.out.trans (hu6.trans hu7))
 have HEL := hQ' hel
 have HW7 := hQ' hW7
 have HRB := hQ' hrb
 clear hb7 hu7 hW7 hrb hat hu6 hel HRUN HS5 HK5 HU5
 go_upto_region 5 with fail
 rw [HW7.out, HRB.out]
 clear HW7 HRB
 obtain ⟨⟨s0, s1⟩, s2, s3⟩ := HK7.out _ (Up.refl _)
 have r0 := HR7.out _ (Up.refl _)
 go_wp2_with fail
 refine (HDO.out _ _ (HS7.out _ (Up.refl _)) A0 c0 HEL.out (HAT.out _ (Up.refl _))).mono ?_
 rintro e w8 ⟨rfl, hu8⟩
 have HU8 := hQ' hu8
 clear s0 s1 s2 s3 r0 hu8
 obtain ⟨⟨s0, s1⟩, s2, s3⟩ := HK7.out _ HU8.out
 have r0 := HR7.out _ HU8.out
 go_wp2_with fail
 refine (HEX.out _ _ (HS7.out _ HU8.out) A0 c0 HEL.out (HAT.out _ HU8.out)).mono ?_
 rintro e w9 ⟨rfl, hu9⟩
 have HU9 := hQ' (HU8.out.trans hu9)
 clear s0 s1 s2 s3 r0 hu9
 go_wp2_with fail
 go_loopw [8] (fun iv wr => ∃ i : Nat, i ≤ en ∧ iv = .int .i64 i ∧ Hid (Up W7 wr)) (fun iv _ => en - (intOf iv).toNat)
 case atStart => exact ⟨0, by omega, rfl, HU9⟩
 case round =>
  obtain ⟨i, hi, rfl, HU⟩ := hrel
  have r0 := HR7.out _ HU.out
  by_cases hlt : i < en
  · have hii : (i : Int) < en := by omega
    have hi0 : (0 : Int) ≤ i := by omega
    obtain ⟨b, off, eA, hx⟩ := HAT.out _ HU.out i (by rw [HEN.out]; exact hlt)
    obtain ⟨x0, x1, x2, x4, x5, x6, c, eV, hcase⟩ := HEV.out i hlt
    rw [eV] at hx
    obtain ⟨e0, e1, e2, e3, e4, e5, e6⟩ := hx
    dsimp only at e0 e1 e2 e3 e4 e5 e6
    subst eA
    have HI := hQ' hlt
    have HIB := hQ' (show i ≤ 100000000 from by have := HEL.out; omega)
    have hb10 := heap_alloc_new wr (.cells #[.int .i64 x0, .int .i64 x1, .int .i64 x2, .int .i64 c, .int .i64 x4, .int .i64 x5, .int .i64 x6] 60)
    have hu10 := (Up.refl wr).alloc (.cells #[.int .i64 x0, .int .i64 x1, .int .i64 x2, .int .i64 c, .int .i64 x4, .int .i64 x5, .int .i64 x6] 60)
    obtain ⟨W10, hW10⟩ : ∃ x, wr.alloc (.cells #[.int .i64 x0, .int .i64 x1, .int .i64 x2, .int .i64 c, .int .i64 x4, .int .i64 x5, .int .i64 x6] 60) = x := ⟨_, rfl⟩
    obtain ⟨eb, heb⟩ : ∃ x, wr.heap.size = x := ⟨_, rfl⟩
    rw [hW10] at hb10 hu10
    rw [heb] at hb10
    have HU10 := hQ' (HU.out.trans hu10)
    have HB10 := hQ' hb10
    have HW10 := hQ' hW10
    have HEB := hQ' heb
    clear hb10 hu10 hW10 heb eV
    go_upto_region 11 with fail
    rw [HW10.out, HEB.out]
    clear HW10 HEB e0 e1 e2 e3 e4 e5 e6 r0
    have hb10 := HB10.out
    have k1 := blk_cells hb10 1
    have k3 := blk_cells hb10 3
    have k5 := blk_cells hb10 5
    simp only [gA_T, gA_0, gA_S] at k1 k3 k5
    have hw1 : wrap64 ((i : Int) + 1) = (i : Int) + 1 := IntWalk.wrap64_in _ (by have := HIB.out; omega)
    clear hb10
    rcases hcase with hc | ⟨rfl, rfl⟩ | ⟨rfl, rfl, hc⟩ | ⟨rfl, rfl, hc⟩
    · have hcb : (x1 != 2) = true := by simpa using hc
      go_wp2_with fail
      go_roundw
      case rel => exact ⟨i + 1, HI.out, by first | rfl | exact cnt_next' i (by have := HIB.out; omega), HU10⟩
      case measure => first | exact cnt_down2 i en HI.out | exact cnt_down' i en HI.out (by have := HIB.out; omega)
    · go_wp2_with fail
      go_roundw
      case rel => exact ⟨i + 1, HI.out, by first | rfl | exact cnt_next' i (by have := HIB.out; omega), HU10⟩
      case measure => first | exact cnt_down2 i en HI.out | exact cnt_down' i en HI.out (by have := HIB.out; omega)
    · go_wp2_with fail
      go_roundw
      case rel => exact ⟨i + 1, HI.out, by first | rfl | exact cnt_next' i (by have := HIB.out; omega), HU10⟩
      case measure => first | exact cnt_down2 i en HI.out | exact cnt_down' i en HI.out (by have := HIB.out; omega)
    · go_wp2_with fail
      go_roundw
      case rel => exact ⟨i + 1, HI.out, by first | rfl | exact cnt_next' i (by have := HIB.out; omega), HU10⟩
      case measure => first | exact cnt_down2 i en HI.out | exact cnt_down' i en HI.out (by have := HIB.out; omega)
  · have hnl : ¬ (i : Int) < en := by omega
    clear hlt hi
    go_wp2_with fail
    refine (HAL.out _).mono ?_
    rintro e w11 ⟨rfl, hu11⟩
    have HU11 := hQ' (HU7.out.trans (HU.out.trans hu11))
    clear hu11 r0
    go_wp2_with fail
    go_ret
    exact ⟨rfl, HU11.out⟩
end Go.Proofs.YtpodgcpkccpnfaaGreat

namespace Go.Proofs.YtpodgcpkccpnfaaGreat
open Go.ChangeShapes Go.WideShapes Go.ChangeAt Go.RowKit Go.ChangeMaps
theorem u16_wf {n : Int} (h : (Lit.int .u16 n).wf = true) : 0 ≤ n ∧ n ≤ 65535 := by simpa [Lit.wf, IntKind.min, IntKind.max, IntKind.signed, IntKind.bits] using h
theorem topDoors_own : ownKnob Tryz.prog.godebug = none := by kernel_rfl
theorem topDoors_laidOut : laidOutB Tryz.prog = true := by kernel_rfl
set_option maxRecDepth 100000 in
theorem topDoors_lifted (os : Os) (started : os.Started) (H : Type) (enc : TypeId × Value → H) :
 ReturnsInHanded {} Tryz.checked os 6 .any (Rows.topDoorsSpec.pre6 enc Tryz.prog Tryz.f6 Rows.topDoorsRow.domain false) (Rows.topDoorsSpec.post enc Tryz.prog Tryz.f6 false true false false) := by
 refine law_lifted (C := Tryz.checked) (tb := 4) topDoors_own started (by kernel_rfl) Tryz.func6
  (ChangeSpec.witness6 (enc := enc) (C := Tryz.checked) false ⟨#[], #[.agg #[.int .u8 0, .int .u8 0, .int .u8 0, .slice none 0 0, .slice none 0 0], .int .u16 0], []⟩ 8 (by kernel_rfl) (by kernel_rfl) (by kernel_rfl) (by kernel_rfl))
  topDoors_laidOut (by rw [Tryz.params6]; intro t ht; simp at ht; rcases ht with rfl | rfl <;> exact ⟨by kernel_rfl, of_decide_eq_true (by kernel_rfl)⟩) (by kernel_rfl) (by kernel_rfl) Tryz.underlying4
  (by
   intro ds gs h hg
   rw [Tryz.params6] at h
   match ds, gs, h, hg with
   | [d0, d1], [], _, _ => exact ⟨rfl, rfl, rfl⟩) ?_
 intro W base args ds gs before hval0 hW hsz
 have hval : ∀ (j : Nat) t v, Tryz.f6.params[j]? = some t → args[j]? = some v → Value.okWide Tryz.prog W .any base t v := hval0
 obtain ⟨p, q, hA0, _, _, _, _⟩ := hW
 have hA : DataW.TrodAll enc Tryz.prog W 0 (fun _ => true) true Tryz.f6.params.toList args.toList ds p := hA0
 clear hA0 hval0
 rw [Tryz.params6] at hA hval
 obtain ⟨v0, v1, d0, d1, p0, p1, rfl, rfl, rfl, h0, h1⟩ := trodAll_two hA
 obtain ⟨x0, x1, x2, A, l, c, B, m, k, rfl, hx, hl, hm⟩ := open_row5 Tryz.underlying52 (by kernel_rfl) (by kernel_rfl) Tryz.underlying5 Tryz.underlying5 Tryz.underlying5 Tryz.underlying24 Tryz.underlying25
  Tryz.underlying68 (by kernel_rfl) rfl rfl rfl (by kernel_rfl) (by kernel_rfl) (by kernel_rfl) Tryz.underlying3 Tryz.underlying3 Tryz.underlying4 Tryz.underlying3 (by kernel_rfl) (hval 0 52 v0 rfl rfl) h0
 obtain ⟨r, rfl, rfl, rfl, wr⟩ := open_int Tryz.underlying56 (hval 1 56 v1 rfl rfl) h1
 have wr := u16_wf wr
 obtain ⟨rn, rfl⟩ : ∃ n : Nat, r = n := ⟨r.toNat, by omega⟩
 exact doors_any' x0 x1 x2 l m A B c k rn W hx (by omega) hl hm
theorem topDoors_holds : Rows.TopDoorsSaid :=
 OpenClaim.holds_of_wide 6 Tryz.f6 rfl rfl rfl rfl rfl rfl rfl ⟨rfl, rfl, rfl, rfl, rfl⟩ rfl rfl rfl rfl rfl (by kernel_rfl) Tryz.func6 (by kernel_rfl)
  (of_decide_eq_true (by kernel_rfl)) (by unfold Func.isWrapper; first | (rw [if_pos (by decide +kernel)]; kernel_rfl) | (rw [if_neg (by decide +kernel)]; exact ⟨rfl, rfl⟩))
  (fun os started H enc _ => topDoors_lifted os started H enc)
end Go.Proofs.YtpodgcpkccpnfaaGreat

