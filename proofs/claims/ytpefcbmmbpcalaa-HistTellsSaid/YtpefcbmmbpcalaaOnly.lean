/-
  Both; those that write, or that read.
-/
import Derived.Test.YtpefcbmmbpcalaaFinP
set_option linter.unusedVariables false
set_option linter.unusedSimpArgs false
namespace Go.Proofs.Ytpefcbmmbpcalaa
open Go.RowKit

set_option maxRecDepth 10000 in
set_option maxHeartbeats 400000 in
theorem both_any (a b : OpD) (w : World) : Calls Try.prog 12 #[oagg a, oagg b] w fun e w' => e = .returned (.bool (bothB a b)) ∧ Up w w' := by
  have HAB : Hid (bothB a b = (!aheadB a b && !aheadB b a)) := Lib.hid rfl
  have H1 := Lib.hid (fun W => ahead_any a b W)
  have H2 := Lib.hid (fun W => ahead_any b a W)
  generalize bothB a b = r at *
  generalize aheadB a b = p at *
  generalize aheadB b a = q at *
  unfold oagg at H1 H2 ⊢
  obtain ⟨af, at', aw, av, ath⟩ := a
  obtain ⟨bf, bt, bw, bv, bth⟩ := b
  dsimp only at *
  obtain ⟨hx, hy⟩ := heap_two w (.cells #[.int .i64 af, .int .i64 at', .bool aw, .int .i64 av, .int .i64 ath] 24) (.cells #[.int .i64 bf, .int .i64 bt, .bool bw, .int .i64 bv, .int .i64 bth] 24)
  have HX := Lib.hid hx
  have HY := Lib.hid hy
  have HU := Lib.hid (((Up.refl w).alloc (.cells #[.int .i64 af, .int .i64 at', .bool aw, .int .i64 av, .int .i64 ath] 24)).alloc (.cells #[.int .i64 bf, .int .i64 bt, .bool bw, .int .i64 bv, .int .i64 bth] 24))
  generalize hW : (w.alloc (.cells #[.int .i64 af, .int .i64 at', .bool aw, .int .i64 av, .int .i64 ath] 24)).alloc (.cells #[.int .i64 bf, .int .i64 bt, .bool bw, .int .i64 bv, .int .i64 bth] 24) = W at *
  obtain ⟨x0, x1, x2, x3, x4⟩ := box_cells HX.out
  obtain ⟨y0, y1, y2, y3, y4⟩ := box_cells HY.out
  clear hx hy
  go_enter Try.func12, Try.ntmps12
  go_wp2_with fail
  refine (H1.out _).mono ?_
  rintro e w1 ⟨rfl, hu1⟩
  have HU1 := Lib.hid (HU.out.trans hu1)
  have HX1 := Lib.hid (box_up HX.out hu1)
  have HY1 := Lib.hid (box_up HY.out hu1)
  clear hu1 hW x0 x1 x2 x3 x4 y0 y1 y2 y3 y4
  obtain ⟨x0, x1, x2, x3, x4⟩ := box_cells HX1.out
  obtain ⟨y0, y1, y2, y3, y4⟩ := box_cells HY1.out
  cases p
  · go_wp2_with fail
    refine (H2.out _).mono ?_
    rintro e w2 ⟨rfl, hu2⟩
    have HU2 := Lib.hid (HU1.out.trans hu2)
    clear hu2
    go_wp2_with fail
    go_ret
    exact ⟨by rw [HAB.out]; rfl, HU2.out⟩
  · go_wp2_with fail
    go_ret
    exact ⟨by rw [HAB.out]; rfl, HU1.out⟩

set_option maxRecDepth 10000 in
set_option maxHeartbeats 400000 in
theorem only1_any (o : OpD) (p : Nat) (b : Bool) (w : World) (hp : w.cell? ⟨p, 0, none⟩ = some (.bool b)) :
    Calls Try.prog 20 #[oagg o, .pointer (some ⟨p, 0, none⟩)] w fun e w' => e = .returned (.bool (o.wr == b)) ∧ Up w w' := by
  obtain ⟨F, T, Wr, V, Th⟩ := o
  unfold oagg
  dsimp only
  have hpl := cell_lt hp
  have HU := Lib.hid ((Up.refl w).alloc (.cells #[.int .i64 F, .int .i64 T, .bool Wr, .int .i64 V, .int .i64 Th] 24))
  go_enter Try.func20, Try.ntmps20
  go_wp2_with fail
  go_ret
  exact ⟨rfl, HU.out⟩

theorem infoOp : (Try.prog.info? 24).map (fun i => (i.zero, i.size, i.bytes)) = some (some (.agg #[.int .i64 0, .int .i64 0, .bool false, .int .i64 0, .int .i64 0]), 5, 40) := by kernel_rfl
theorem oparts {P : Program} {e : TypeId} {z : Value} {s b : Nat} (h : (P.info? e).map (fun i => (i.zero, i.size, i.bytes)) = some (some z, s, b)) : ∃ i, P.info? e = some i ∧ i.zero = some z ∧ i.size = s ∧ i.bytes = b := by
  cases hi : P.info? e with
  | none => rw [hi] at h; cases h
  | some i =>
    rw [hi] at h
    simp only [Option.map_some, Option.some.injEq, Prod.mk.injEq] at h
    exact ⟨i, rfl, h.1, h.2.1, h.2.2⟩
def onlyL (l : List OpD) (b : Bool) : List OpD := l.filter fun o => o.wr == b
theorem onlyL_take (l : List OpD) (b : Bool) (j : Nat) (h : j < l.length) : onlyL (l.take (j + 1)) b = if (l.getD j op0).wr == b then onlyL (l.take j) b ++ [l.getD j op0] else onlyL (l.take j) b := by
  unfold onlyL
  rw [List.take_succ_eq_append_getElem h, List.filter_append, List.getD_eq_getElem?_getD, List.getElem?_eq_getElem h]
  by_cases hx : l[j].wr == b
  · simp [hx]
  · simp [hx]
theorem onlyL_len (l : List OpD) (b : Bool) (j : Nat) : (onlyL (l.take j) b).length ≤ j := Nat.le_trans (List.length_filter_le _ _) (List.length_take_le _ _)
theorem own_less {w : World} {B B' e size n : Nat} {v : Value} {xs : List Value} (h : w.ownsRow B e size v n xs) (hB : B' ≤ B) : w.ownsRow B' e size v n xs :=
  ⟨h.1, h.2.imp id fun ⟨g, cap, cur, a1, a2, a3⟩ => ⟨g, cap, cur, a1, Nat.le_trans hB a2, a3⟩⟩
theorem own_up3 {w w' : World} {B e size n : Nat} {v : Value} {xs : List Value} (h : w.ownsRow B e size v n xs) (u : Up w w') : w'.ownsRow B e size v n xs := by
  rcases h.2 with ⟨hv, hn⟩ | ⟨g, cap, cur, hv, hg, hh, hr⟩
  · exact ⟨h.1, .inl ⟨hv, hn⟩⟩
  · exact ⟨h.1, .inr ⟨g, cap, cur, hv, hg, (u.block g (Array.getElem?_eq_some_iff.1 hh).1).trans hh, hr⟩⟩

set_option maxRecDepth 10000 in
set_option maxHeartbeats 1000000 in
theorem filter_any (l : List OpD) (A : Option Addr) (c p : Nat) (b : Bool) (w : World) (hL : l.length ≤ 1000000) (hr : OpRow w A l) (hp : w.cell? ⟨p, 0, none⟩ = some (.bool b)) :
    Calls Try.prog 19 #[.slice A l.length c, .func (.func 20) #[] #[.pointer (some ⟨p, 0, none⟩)]] w fun e w' => ∃ v, e = .returned v ∧ OwnO w' w.heap.size v (onlyL l b) ∧ Up w w' := by
  obtain ⟨i0, hi, hz0, hz1, hz2⟩ := oparts infoOp
  have HI := Lib.hid hi
  have HZ0 := Lib.hid hz0
  have HZ1 := Lib.hid hz1
  have HZ2 := Lib.hid hz2
  have HR := Lib.hid hr
  have HP := Lib.hid hp
  have HL := Lib.hid hL
  have hl2 : (l.length : Int) ≤ 1000000 := by omega
  have HTA : Hid (onlyL (l.take l.length) b = onlyL l b) := Lib.hid (by rw [List.take_length])
  have HTK := Lib.hid (fun j h => onlyL_take l b j h)
  have HLE := Lib.hid (onlyL_len l b)
  clear hi hz0 hz1 hz2 hr hp hL
  go_enter Try.func19, Try.ntmps19
  go_wp2_with fail
  go_loopw [5, 10] (fun u x wr => ∃ j : Nat, j ≤ l.length ∧ x = .int .i64 j ∧ Hid (OwnO wr w.heap.size u (onlyL (l.take j) b)) ∧ Hid (Up w wr)) (fun _ x _ => l.length - (intOf x).toNat)
  case atStart => exact ⟨0, by omega, rfl, Lib.hid (own_nil _ _ _ _), Lib.hid (Up.refl _)⟩
  case round =>
    obtain ⟨j, hj, rfl, HO, HV⟩ := hrel
    by_cases hlt : j < l.length
    · have hji : (j : Int) < l.length := by omega
      have hj0 : (0 : Int) ≤ j := by omega
      obtain ⟨b1, off, rfl, x0, x1, x2, x3, x4⟩ := HR.out.up HV.out j hlt
      have HS := Lib.hid (HTK.out j hlt)
      have HLB : Hid ((onlyL (l.take j) b).length + 1 ≤ maxLen ∧ ((onlyL (l.take j) b).length + 1) * 40 ≤ 140737488355328) := Lib.hid (by have := HLE.out j; have := HL.out; unfold maxLen; omega)
      generalize l.getD j op0 = o at *
      have HC := Lib.hid (fun W (u : Up w W) => only1_any o p b W ((u.cell (cell_lt HP.out)).trans HP.out))
      obtain ⟨F, T, Wr, V, Th⟩ := o
      unfold oagg at HC
      dsimp only at x0 x1 x2 x3 x4 HS HC
      have HB1 := Lib.hid (heap_alloc_new wr (.cells #[.int .i64 F, .int .i64 T, .bool Wr, .int .i64 V, .int .i64 Th] 24))
      have HU1 := Lib.hid (HV.out.alloc (.cells #[.int .i64 F, .int .i64 T, .bool Wr, .int .i64 V, .int .i64 Th] 24))
      have HOA := Lib.hid (own_up3 HO.out ((Up.refl wr).alloc (.cells #[.int .i64 F, .int .i64 T, .bool Wr, .int .i64 V, .int .i64 Th] 24)))
      go_wp2_with fail
      refine (HC.out _ HU1.out).mono ?_
      rintro e w2 ⟨rfl, hu2⟩
      have HU2 := Lib.hid (HU1.out.trans hu2)
      have HB2 := Lib.hid ((hu2.block _ (Array.getElem?_eq_some_iff.1 HB1.out).1).trans HB1.out)
      have HO2 := Lib.hid (own_up3 HOA.out hu2)
      have HSZ2 := Lib.hid HU2.out.size
      clear hu2 x0 x1 x2 x3 x4 HC HB1 HOA
      cases hwb : (Wr == b)
      · have HS2 : Hid (onlyL (l.take (j + 1)) b = onlyL (l.take j) b) := Lib.hid (by rw [HS.out, hwb]; rfl)
        clear HS hwb
        go_wp2_with fail
        go_roundw
        case rel => exact ⟨j + 1, by omega, by go_num, by rw [HS2.out]; exact HO2, HU2⟩
        case measure => simp [intOf]; omega
      · have HS2 : Hid (onlyL (l.take (j + 1)) b = onlyL (l.take j) b ++ [⟨F, T, Wr, V, Th⟩]) := Lib.hid (by rw [HS.out, hwb]; rfl)
        obtain ⟨x0, x1, x2, x3, x4⟩ := box_cells HB2.out
        clear HS hwb
        go_wp2_with (at_builtin; refine wpList_push (news := [.int .i64 F, .int .i64 T, .bool Wr, .int .i64 V, .int .i64 Th]) rfl (.tmp 17) (.tmp 19) 22 rfl w.heap.size i0 (.agg #[.int .i64 0, .int .i64 0, .bool false, .int .i64 0, .int .i64 0]) 5 40 Try.underlying22 HI.out HZ0.out HZ1.out HZ2.out rfl (by decide) _ (onlyL (l.take j) b).length (ocells (onlyL (l.take j) b)) rfl HO2.out rfl rfl (by simp [Value.oneCell']) (by decide) HLB.out.2 HSZ2.out ?_; intro v' w6 hown6 hg hbl)
        have HO6 : Hid (OwnO w6 w.heap.size v' (onlyL (l.take (j + 1)) b)) := Lib.hid (by
          rw [HS2.out]
          unfold OwnO
          rw [List.length_append, ocells_append]
          exact hown6)
        have HU6 := Lib.hid (show Up w w6 from Below.trans HU2.out hbl)
        clear hown6 hg hbl x0 x1 x2 x3 x4
        go_wp2_with fail
        go_roundw
        case rel => exact ⟨j + 1, by omega, by go_num, HO6, HU6⟩
        case measure => simp [intOf]; omega
    · obtain rfl : j = l.length := by omega
      clear hlt
      rw [HTA.out] at HO
      go_wp2_with fail
      go_ret
      exact ⟨_, rfl, HO.out, HV.out⟩

set_option maxRecDepth 10000 in
set_option maxHeartbeats 1000000 in
theorem only_any (l : List OpD) (A : Option Addr) (c : Nat) (b : Bool) (w : World) (hL : l.length ≤ 1000000) (hr : OpRow w A l) :
    Calls Try.prog 7 #[.slice A l.length c, .bool b] w fun e w' => ∃ v, e = .returned v ∧ OwnO w' w.heap.size v (onlyL l b) ∧ Up w w' := by
  have HMF := Lib.hid (show ∀ (fn : Fn) (first cap : Array Value) (w : World), (Instr.makeFunc fn first cap).run Try.prog w = .ok (.func fn first cap) w from fun _ _ _ _ => rfl)
  have hh := heap_alloc_new w (.cells #[.bool b] 4)
  have hu : Up w (w.alloc (.cells #[.bool b] 4)) := (Up.refl w).alloc _
  have HF := Lib.hid (filter_any l A c w.heap.size b (w.alloc (.cells #[.bool b] 4)) hL (hr.up hu) (cell_of_row _ _ 0 _ _ _ hh))
  have HU := Lib.hid hu
  clear hh hu hr hL
  generalize l.length = n at *
  go_enter Try.func7, Try.ntmps7
  go_wp2_with fail
  refine HF.out.mono ?_
  rintro e w2 ⟨v, rfl, ho, hu2⟩
  have HO := Lib.hid (own_less ho HU.out.size)
  have HU2 := Lib.hid (HU.out.trans hu2)
  clear ho hu2
  go_wp2_with fail
  go_ret
  exact ⟨_, rfl, HO.out, HU2.out⟩

end Go.Proofs.Ytpefcbmmbpcalaa
