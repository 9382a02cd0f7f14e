/-
  loose.Sees.
-/
import Derived.Test.YtpefcbmmbpcalaaSees
set_option linter.unusedVariables false
set_option linter.unusedSimpArgs false
namespace Go.Proofs.Ytpefcbmmbpcalaa
open Go.RowKit

theorem ownO_ge {w : World} {B : Nat} {v : Value} {l : List OpD} (h : OwnO w B v l) : ∀ A n c, v = .slice A n c → ∀ b off, A = some ⟨b, off, none⟩ → B ≤ b := by
  intro A n c e b off eA
  subst e eA
  refine (h.lt b ?_).1
  rcases h.2 with ⟨a1, _⟩ | ⟨g, cap, cur, a1, _⟩
  · cases a1
  · injection a1 with a1 _ _
    injection a1 with a1
    injection a1 with a1 a2 _
    subst a1 a2
    rfl

set_option maxRecDepth 10000 in
set_option maxHeartbeats 2000000 in
theorem sees_any (l : List OpD) (A : Option Addr) (c i : Nat) (first : Int) (w : World) (hL : l.length ≤ 1000000) (hr : OpRow w A l) (hi : i < l.length) (hrd : (l.getD i op0).wr = false) (hf : faultP l = 0) :
    Calls Try.prog 22 #[.slice A l.length c, .int .i64 first, .int .i64 i] w fun e w' => ∃ v, e = .returned v ∧ OwnZ w' w.heap.size v (seenL (onlyL l true) first (l.getD i op0)) ∧ Up w w' := by
  have HMF := Lib.hid (show ∀ (fn : Fn) (first cap : Array Value) (w : World), (Instr.makeFunc fn first cap).run Try.prog w = .ok (.func fn first cap) w from fun _ _ _ _ => rfl)
  have HF := Lib.hid (fault_any l A c w hL hr)
  rw [hf] at HF
  have HON := Lib.hid (fun W (u : Up w W) => only_any l A c true W hL (hr.up u))
  have HSE := Lib.hid (fun A2 c2 o W (h1 : OpRow W A2 (onlyL l true)) h2 h3 => seen_sees (onlyL l true) A2 c2 o first (l.getD i op0) W (Nat.le_trans (onlyL_all_len l true) hL) h1 h2 h3)
  have hii : (i : Int) < l.length := by omega
  have hi0 : (0 : Int) ≤ i := by omega
  have hl2 : (l.length : Int) ≤ 1000000 := by omega
  obtain ⟨b, off, rfl, k0, k1, k2, k3, k4⟩ := hr i hi
  rw [hrd] at k2
  have KUP : Hid (∀ w', Up w w' → w'.cell? ⟨b, off + i * 5, none⟩ = w.cell? ⟨b, off + i * 5, none⟩ ∧ w'.cell? ⟨b, off + i * 5 + 1, none⟩ = w.cell? ⟨b, off + i * 5 + 1, none⟩ ∧ w'.cell? ⟨b, off + i * 5 + 2, none⟩ = w.cell? ⟨b, off + i * 5 + 2, none⟩ ∧ w'.cell? ⟨b, off + i * 5 + 3, none⟩ = w.cell? ⟨b, off + i * 5 + 3, none⟩ ∧ w'.cell? ⟨b, off + i * 5 + 4, none⟩ = w.cell? ⟨b, off + i * 5 + 4, none⟩) := Lib.hid (fun w' u => ⟨u.cell (cell_lt k0), u.cell (cell_lt k0), u.cell (cell_lt k0), u.cell (cell_lt k0), u.cell (cell_lt k0)⟩)
  rw [k0, k1, k2, k3, k4] at KUP
  generalize onlyL l true = ws at *
  generalize l.getD i op0 = r at *
  obtain ⟨RF, RT, RW, RV, RH⟩ := r
  dsimp only at hrd
  subst hrd
  unfold oagg at HSE
  dsimp only at k0 k1 k3 k4 KUP HSE
  clear hL hr hi hf k0 k1 k3 k4
  go_enter Try.func22, Try.ntmps22
  go_wp2_with fail
  refine HF.out.mono ?_
  rintro e w1 ⟨rfl, hu1⟩
  have HU1 := Lib.hid hu1
  have HUB := Lib.hid ((hu1.alloc (.cells #[.slice none 0 0] 42)).drew)
  have HBX := Lib.hid (heap_alloc_new w1 (.cells #[.slice none 0 0] 42))
  clear hu1 k2
  go_upto_region 4 with fail
  have HS0 := Lib.hid (KUP.out _ HUB.out)
  refine wp_region_held_drew (S := fun w' => w'.cell? ⟨b, off + i * 5, none⟩ = some (.int .i64 RF) ∧ w'.cell? ⟨b, off + i * 5 + 1, none⟩ = some (.int .i64 RT) ∧ w'.cell? ⟨b, off + i * 5 + 2, none⟩ = some (.bool false) ∧ w'.cell? ⟨b, off + i * 5 + 3, none⟩ = some (.int .i64 RV) ∧ w'.cell? ⟨b, off + i * 5 + 4, none⟩ = some (.int .i64 RH)) (by kernel_rfl) HS0.out (fun hS0 => ?_)
  refine wpAnyH_take (i := 0) (v := ?_) rfl (by kernel_rfl) (by kernel_rfl) (by kernel_rfl) (fun _ _ _ h => h) (Or.inl ⟨by kernel_rfl, ?_⟩) hS0 ?_
  rotate_left
  · intro w hSw
    try dsimp only at hSw
    go_simp
    try (with_reducible rfl)
  try simp only [Act.put, List.setIfInBounds_toArray, List.set_cons_zero, List.set_cons_succ]
  refine wpAnyH_take (i := 2) (v := ?_) rfl (by kernel_rfl) (by kernel_rfl) (by kernel_rfl) (fun _ _ _ h => h) (Or.inl ⟨by kernel_rfl, ?_⟩) hS0 ?_
  rotate_left
  · intro w hSw
    try dsimp only at hSw
    go_simp
    try (with_reducible rfl)
  try simp only [Act.put, List.setIfInBounds_toArray, List.set_cons_zero, List.set_cons_succ]
  refine wpAnyH_take (i := 3) (v := ?_) rfl (by kernel_rfl) (by kernel_rfl) (by kernel_rfl) (fun _ _ _ h => h) (Or.inl ⟨by kernel_rfl, ?_⟩) hS0 ?_
  rotate_left
  · intro w hSw
    try dsimp only at hSw
    go_simp
    try (with_reducible rfl)
  try simp only [Act.put, List.setIfInBounds_toArray, List.set_cons_zero, List.set_cons_succ]
  refine wpAnyH_take (i := 4) (v := ?_) rfl (by kernel_rfl) (by kernel_rfl) (by kernel_rfl) (fun _ _ _ h => h) (Or.inl ⟨by kernel_rfl, ?_⟩) hS0 ?_
  rotate_left
  · intro w hSw
    try dsimp only at hSw
    go_simp
    try (with_reducible rfl)
  try simp only [Act.put, List.setIfInBounds_toArray, List.set_cons_zero, List.set_cons_succ]
  refine wpAnyH_take (i := 5) (v := ?_) rfl (by kernel_rfl) (by kernel_rfl) (by kernel_rfl) (fun _ _ _ h => h) (Or.inl ⟨by kernel_rfl, ?_⟩) hS0 ?_
  rotate_left
  · intro w hSw
    try dsimp only at hSw
    go_simp
    try (with_reducible rfl)
  try simp only [Act.put, List.setIfInBounds_toArray, List.set_cons_zero, List.set_cons_succ]
  refine wpAnyH_take (i := 6) (v := ?_) rfl (by kernel_rfl) (by kernel_rfl) (by kernel_rfl) (fun _ _ _ h => h) (Or.inl ⟨by kernel_rfl, ?_⟩) hS0 ?_
  rotate_left
  · intro w hSw
    try dsimp only at hSw
    go_simp
    try (with_reducible rfl)
  try simp only [Act.put, List.setIfInBounds_toArray, List.set_cons_zero, List.set_cons_succ]
  refine wpAnyH_take (i := 7) (v := ?_) rfl (by kernel_rfl) (by kernel_rfl) (by kernel_rfl) (fun _ _ _ h => h) (Or.inl ⟨by kernel_rfl, ?_⟩) hS0 ?_
  rotate_left
  · intro w hSw
    try dsimp only at hSw
    go_simp
    try (with_reducible rfl)
  try simp only [Act.put, List.setIfInBounds_toArray, List.set_cons_zero, List.set_cons_succ]
  refine wpAnyH_ready (rs := [1]) (by kernel_rfl) (by simp) ?_
  refine AllReadyH.cons rfl (fun K hK => ?_) AllReadyH.nil
  go_simp
  refine (HON.out _ HUB.out).mono ?_
  rintro e w2 ⟨vo, rfl, ho, hu2⟩
  have HGE := Lib.hid (ownO_ge ho)
  obtain ⟨A2, c2, rfl, hrow⟩ := ho.row
  have HU2 := Lib.hid (HUB.out.trans hu2)
  have HB2 := Lib.hid (box_up (show (w1.alloc (.cells #[.slice none 0 0] 42)).drew.heap[w1.heap.size]? = _ from HBX.out) hu2)
  have HNE : Hid (∀ b off, A2 = some ⟨b, off, none⟩ → b ≠ w1.heap.size) := Lib.hid (fun b off e => by
    have h1 := HGE.out _ _ _ rfl b off e
    have h2 : (w1.alloc (.cells #[.slice none 0 0] 42)).drew.heap.size = w1.heap.size + 1 := by show (w1.alloc _).heap.size = _; simp
    omega)
  have HSQ := Lib.hid (HSE.out A2 c2 w1.heap.size w2 hrow HNE.out HB2.out)
  clear ho hrow hu2 HBX
  refine hK.out _ _ (KUP.out _ HU2.out) (fun hS1 => ?_)
  clear hK K
  try simp only [Act.put, List.setIfInBounds_toArray, List.set_cons_zero, List.set_cons_succ]
  refine wpAnyH_ready (rs := [8]) (by kernel_rfl) (by simp) ?_
  refine AllReadyH.cons rfl (fun K hK => ?_) AllReadyH.nil
  go_simp
  refine HSQ.out.mono ?_
  rintro e w3 ⟨⟨ve, rfl⟩, ⟨v, hv1, hv2⟩, hk⟩
  have HFIN : Hid (OwnZ w3 w.heap.size v (seenL ws first ⟨RF, RT, false, RV, RH⟩) ∧ Up w w3) := Lib.hid ⟨own_less hv2 (Nat.le_succ_of_le HU2.out.size), Below.trans HU2.out (hk.below HU2.out.size (fun k hx => by
    have h1 := HU1.out.size
    have h2 := HU2.out.size
    rcases hx with h | h <;> omega))⟩
  have hcv := cell_of_row _ _ 0 _ _ _ hv1
  simp only [List.getElem?_toArray, List.getElem?_cons_zero] at hcv
  have HCV := Lib.hid hcv
  obtain ⟨A4, c4, rfl, _⟩ := z_slice hv2
  clear hv1 hv2 hk hcv
  refine hK.out _ _ (KUP.out _ HFIN.out.2) (fun hS2 => ?_)
  clear hK K
  try simp only [Act.put, List.setIfInBounds_toArray, List.set_cons_zero, List.set_cons_succ]
  refine wpAnyH_done (by kernel_rfl) ?_ _
  try simp only [Act.put, List.setIfInBounds_toArray, List.set_cons_zero, List.set_cons_succ, List.getElem_toArray, List.getElem_cons_succ, List.getElem_cons_zero]
  clear hS0 hS1 hS2
  have hcv := HCV.out
  go_wp2_with fail
  go_ret
  exact ⟨_, rfl, HFIN.out⟩

end Go.Proofs.Ytpefcbmmbpcalaa
