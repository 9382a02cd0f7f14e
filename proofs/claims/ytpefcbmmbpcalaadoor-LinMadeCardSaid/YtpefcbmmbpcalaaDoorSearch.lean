/-
  lin.search, lin.Has, lin.Find.
-/
import Derived.Test.YtpefcbmmbpcalaaDoorSrW
import Derived.Test.YtpefcbmmbpcalaaDoorOver
import Derived.Laws.EntriesVeiled
set_option linter.unusedVariables false
set_option linter.unusedSimpArgs false
namespace Go.Proofs.YtpefcbmmbpcalaaDoor
open Go.RowKit

theorem own_lessN {w : World} {B B' : Nat} {v : Value} {F : List Nat} (h : OwnN w B v F) (hB : B' ≤ B) : OwnN w B' v F := ⟨h.1, h.2.imp id (fun ⟨g, cap, cur, a1, a2, a3⟩ => ⟨g, cap, cur, a1, Nat.le_trans hB a2, a3⟩)⟩
theorem search_lays (w1 : World) (OV FV : Value) : ∃ W, W = (((((w1.alloc (.cells #[OV] 23)).alloc (.map #[] 0)).alloc (.cells #[.map (some (w1.heap.size + 1))] 68)).alloc (.cells #[.slice none 0 0] 24)).alloc (.cells #[FV] 69)) ∧ Boxed W w1.heap.size 23 OV ∧ MapT W (w1.heap.size + 1) [] ∧ Boxed W (w1.heap.size + 1 + 1) 68 (.map (some (w1.heap.size + 1))) ∧ Boxed W (w1.heap.size + 1 + 1 + 1) 24 (.slice none 0 0) ∧ Boxed W (w1.heap.size + 1 + 1 + 1 + 1) 69 FV ∧ Up w1 W := by
  have b1 := ((((Boxed.new w1 23 OV).alloc (.map #[] 0)).alloc (.cells #[.map (some (w1.heap.size + 1))] 68)).alloc (.cells #[.slice none 0 0] 24)).alloc (.cells #[FV] 69)
  have b2 := (((World.ownsMap_made (w1.alloc (.cells #[OV] 23)) Tryd.prog 71 (unitElem (H := Unit))).alloc (.cells #[.map (some (w1.heap.size + 1))] 68)).alloc (.cells #[.slice none 0 0] 24)).alloc (.cells #[FV] 69)
  have b3 := ((Boxed.new ((w1.alloc (.cells #[OV] 23)).alloc (.map #[] 0)) 68 (.map (some (w1.heap.size + 1)))).alloc (.cells #[.slice none 0 0] 24)).alloc (.cells #[FV] 69)
  have b4 := (Boxed.new (((w1.alloc (.cells #[OV] 23)).alloc (.map #[] 0)).alloc (.cells #[.map (some (w1.heap.size + 1))] 68)) 24 (.slice none 0 0)).alloc (.cells #[FV] 69)
  have b5 := Boxed.new ((((w1.alloc (.cells #[OV] 23)).alloc (.map #[] 0)).alloc (.cells #[.map (some (w1.heap.size + 1))] 68)).alloc (.cells #[.slice none 0 0] 24)) 69 FV
  simp only [World.size_alloc] at b2 b3 b4 b5
  exact ⟨_, rfl, b1, .start b2, b3, b4, b5, (((((Up.refl w1).alloc _).alloc _).alloc _).alloc _).alloc _⟩
/-- The search's memory at its beginning. -/
theorem sinv_start {l : List OpD} {A : Option Addr} {c : Nat} {w w1 W : World} (hb : Boxed w1 w.heap.size 22 (.slice A l.length c)) (hu : Up w w1) (hs : w.heap.size < w1.heap.size)
    (h1 : Boxed W w1.heap.size 23 (.int .u64 (overL l : Nat))) (h2 : MapT W (w1.heap.size + 1) []) (h3 : Boxed W (w1.heap.size + 1 + 1) 68 (.map (some (w1.heap.size + 1)))) (h4 : Boxed W (w1.heap.size + 1 + 1 + 1) 24 (.slice none 0 0)) (h5 : Boxed W (w1.heap.size + 1 + 1 + 1 + 1) 69 (.func (.func 42) #[] #[.pointer (some ⟨w1.heap.size, 0, none⟩), .pointer (some ⟨w1.heap.size + 1 + 1, 0, none⟩), .pointer (some ⟨w.heap.size, 0, none⟩), .pointer (some ⟨w1.heap.size + 1 + 1 + 1, 0, none⟩), .pointer (some ⟨w1.heap.size + 1 + 1 + 1 + 1, 0, none⟩)])) (hw : Up w1 W) :
    SInv l A c w w1.heap.size [] [] (.slice none 0 0) W :=
  ⟨hu.trans hw, hs, boxed_up hb hw, h1, h2, h3, h4, h5, World.ownsRow_nil _ _ _ _⟩

set_option maxRecDepth 10000 in
set_option maxHeartbeats 2000000 in
theorem search_any (l : List OpD) (A : Option Addr) (c : Nat) (first : Int) (w : World) (hl : l.length ≤ 24) (hf : fineP l = true) (hT : TabT w) (hr : OpRow w A l) (hv : ∀ v, ValIn l first v → (Lit.int .i64 v).wf = true) :
    Calls Tryd.prog 35 #[.slice A l.length c, .int .i64 first] w fun e w' => ∃ ok vf F, e = .returned (.tuple #[vf, .bool ok]) ∧ OwnN w' w.heap.size vf F ∧ Up w w' ∧ (ok = true ↔ Comp l 0 first) ∧ (ok = true → rightP l first (iL F) = true) := by
  have hmm := @run_makeMap Tryd.prog
  have HMF := Lib.hid (show ∀ (fn : Fn) (first cap : Array Value) (w : World), (Instr.makeFunc fn first cap).run Tryd.prog w = .ok (.func fn first cap) w from fun _ _ _ _ => rfl)
  have HTY := Lib.hid (fun K vf W (hS : SInv l A c w K [] [] vf W) => try_any l A c first w K hl hf hT hr hv (und l 0 + 1) [] [] 0 first vf W (Nat.lt_succ_self _) hS (Path.start l first) List.mem_cons_self ⟨List.nodup_nil, fun s h => by cases h⟩)
  have hu0 := (Up.refl w).alloc (.cells #[.slice A l.length c] 22)
  have HOV := Lib.hid (over_any l A c (w.alloc (.cells #[.slice A l.length c] 22)) (by omega) (hr.up hu0))
  have HB0 := Lib.hid (Boxed.new w 22 (.slice A l.length c))
  have HU0 := Lib.hid hu0
  clear hl hf hT hr hv hu0
  go_enter Tryd.func35, Tryd.ntmps35
  go_wp2_with fail
  refine HOV.out.mono ?_
  rintro e w1 ⟨rfl, hu1⟩
  have HU1 := Lib.hid hu1
  have HSZ : Hid (w.heap.size < w1.heap.size) := Lib.hid (by have := hu1.size; simp at this; omega)
  have HB1 := Lib.hid (boxed_up HB0.out hu1)
  clear hu1
  obtain ⟨W5, hW5, b1, b2, b3, b4, b5, hup⟩ := search_lays w1 (.int .u64 (overL l : Nat)) (.func (.func 42) #[] #[.pointer (some ⟨w1.heap.size, 0, none⟩), .pointer (some ⟨w1.heap.size + 1 + 1, 0, none⟩), .pointer (some ⟨w.heap.size, 0, none⟩), .pointer (some ⟨w1.heap.size + 1 + 1 + 1, 0, none⟩), .pointer (some ⟨w1.heap.size + 1 + 1 + 1 + 1, 0, none⟩)])
  have HS := Lib.hid (sinv_start HB1.out (HU0.out.trans HU1.out) HSZ.out b1 b2 b3 b4 b5 hup)
  rw [hW5] at HS
  clear hW5 b1 b2 b3 b4 b5 hup
  go_wp2_with fail
  refine (HTY.out _ _ _ HS.out).mono ?_
  rintro e w8 ⟨ok, T2, F2, vf3, rfl, hS8, ht8, hk8, hm8, ho8⟩
  obtain ⟨t1, t2⟩ := ho8.top
  have HT1 := Lib.hid t1
  have HT2 := Lib.hid t2
  have HS8 := Lib.hid hS8
  have zB := hS8.B.cell
  have hKL := HS8.out.nK
  clear t1 t2 hS8 ht8 hk8 hm8 ho8
  go_wp2_with fail
  go_ret2
  exact ⟨ok, vf3, F2, rfl, own_lessN HS8.out.own (by omega), HS8.out.up, HT1.out, HT2.out⟩

/-- What Has and Find answer. -/
def ValsOk (l : List OpD) (first : Int) : Prop := ∀ v, ValIn l first v → (Lit.int .i64 v).wf = true
theorem check_zero {l : List OpD} (h : checkP l = 0) : l.length ≤ 24 ∧ fineP l = true := by
  unfold checkP at h
  split at h
  · split at h
    · cases h
    · exact ⟨by omega, by assumption⟩
  · cases h
set_option maxRecDepth 10000 in
set_option maxHeartbeats 2000000 in
theorem lhas_any (l : List OpD) (A : Option Addr) (c : Nat) (first : Int) (w : World) (hl : l.length ≤ 9223372036854775807) (hT : TabT w) (hr : OpRow w A l) (hv : ValsOk l first) :
    Calls Tryd.prog 20 #[.slice A l.length c, .int .i64 first] w fun e w' => ∃ ok : Bool, e = .returned (.tuple #[.bool ok, .int .i64 (checkP l)]) ∧ (checkP l ≠ 0 → ok = false) ∧ (checkP l = 0 → (ok = true ↔ Comp l 0 first)) ∧ Up w w' := by
  have HCH := Lib.hid (check_any l A c w hl hr)
  by_cases h0 : checkP l = 0
  · have HSE := Lib.hid (fun W (u : Up w W) => search_any l A c first W (check_zero h0).1 (check_zero h0).2 (hT.up u) (hr.up u) hv)
    rw [h0] at HCH ⊢
    clear hl hT hr hv h0
    go_enter Tryd.func20, Tryd.ntmps20
    go_wp2_with fail
    refine HCH.out.mono ?_
    rintro e w1 ⟨rfl, hu1⟩
    have HU1 := Lib.hid hu1
    clear hu1
    go_wp2_with fail
    refine (HSE.out _ HU1.out).mono ?_
    rintro e w2 ⟨ok, vf, F, rfl, _, hu2, h1, h2⟩
    have HU2 := Lib.hid (HU1.out.trans hu2)
    have H1 := Lib.hid h1
    clear hu2 h1 h2
    go_wp2_with fail
    go_ret2
    exact ⟨ok, rfl, fun h => absurd rfl h, fun _ => H1.out, HU2.out⟩
  · have h0b : (checkP l != 0) = true := by rw [bne_iff_ne]; exact h0
    have HN := Lib.hid h0
    clear hl hT hr hv h0
    generalize checkP l = cp at *
    go_enter Tryd.func20, Tryd.ntmps20
    go_wp2_with fail
    refine HCH.out.mono ?_
    rintro e w1 ⟨rfl, hu1⟩
    have HU1 := Lib.hid hu1
    clear hu1
    go_wp2_with fail
    go_ret2
    exact ⟨false, rfl, fun _ => rfl, fun h => absurd h HN.out, HU1.out⟩
set_option maxRecDepth 10000 in
set_option maxHeartbeats 2000000 in
theorem lfind_any (l : List OpD) (A : Option Addr) (c : Nat) (first : Int) (w : World) (hl : l.length ≤ 9223372036854775807) (hT : TabT w) (hr : OpRow w A l) (hv : ValsOk l first) :
    Calls Tryd.prog 21 #[.slice A l.length c, .int .i64 first] w fun e w' => ∃ vf F er, e = .returned (.tuple #[vf, .int .i64 er]) ∧ OwnN w' w.heap.size vf F ∧ Up w w' ∧ (checkP l ≠ 0 → F = [] ∧ er = checkP l) ∧
      (checkP l = 0 → (Comp l 0 first → er = 0 ∧ rightP l first (iL F) = true) ∧ (¬ Comp l 0 first → er = 7 ∧ F = [])) := by
  have HCH := Lib.hid (check_any l A c w hl hr)
  by_cases h0 : checkP l = 0
  · have HSE := Lib.hid (fun W (u : Up w W) => search_any l A c first W (check_zero h0).1 (check_zero h0).2 (hT.up u) (hr.up u) hv)
    rw [h0] at HCH ⊢
    clear hl hT hr hv h0
    go_enter Tryd.func21, Tryd.ntmps21
    go_wp2_with fail
    refine HCH.out.mono ?_
    rintro e w1 ⟨rfl, hu1⟩
    have HU1 := Lib.hid hu1
    clear hu1
    go_wp2_with fail
    refine (HSE.out _ HU1.out).mono ?_
    rintro e w2 ⟨ok, vf, F, rfl, ho2, hu2, h1, h2⟩
    have HU2 := Lib.hid (HU1.out.trans hu2)
    have HO2 := Lib.hid (own_lessN ho2 HU1.out.size)
    have H1 := Lib.hid h1
    have H2 := Lib.hid h2
    clear hu2 h1 h2 ho2
    cases ok
    · go_wp2_with fail
      go_ret2
      refine ⟨.slice none 0 0, [], 7, rfl, World.ownsRow_nil _ _ _ _, HU2.out, fun h => absurd rfl h, fun _ => ⟨fun h => ?_, fun _ => ⟨rfl, rfl⟩⟩⟩
      have := H1.out.2 h
      simp at this
    · go_wp2_with fail
      go_ret2
      exact ⟨vf, F, 0, rfl, HO2.out, HU2.out, fun h => absurd rfl h, fun _ => ⟨fun _ => ⟨rfl, H2.out (by first | rfl | trivial)⟩, fun h => absurd (H1.out.1 (by first | rfl | trivial)) h⟩⟩
  · have h0b : (checkP l != 0) = true := by rw [bne_iff_ne]; exact h0
    have HN := Lib.hid h0
    clear hl hT hr hv h0
    generalize checkP l = cp at *
    go_enter Tryd.func21, Tryd.ntmps21
    go_wp2_with fail
    refine HCH.out.mono ?_
    rintro e w1 ⟨rfl, hu1⟩
    have HU1 := Lib.hid hu1
    clear hu1
    go_wp2_with fail
    go_ret2
    exact ⟨.slice none 0 0, [], _, rfl, World.ownsRow_nil _ _ _ _, HU1.out, fun _ => ⟨rfl, rfl⟩, fun h => absurd h HN.out⟩

end Go.Proofs.YtpefcbmmbpcalaaDoor
