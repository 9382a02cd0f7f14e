/-
  The document's Do: acts on its Mem.
-/
import Derived.Test.YtpandnodeldbjaaRefE
import Derived.Test.YtpandnodeldbjaaDo
set_option linter.unusedVariables false
set_option linter.unusedSimpArgs false
namespace Go.Proofs.Ytpandnodeldbjaa
open Go.RowKit

def ractP (a : Act3) (sum : Int) (r : RS) : Int × RS :=
  if a.1 % 6 = 0 then (wrap64 (sum + (rAsk (1, a.2.1, 0) r).1), (rAsk (1, a.2.1, 0) r).2)
  else if a.1 % 6 = 1 then (sum, (rAsk (2, a.2.1, a.2.2) r).2)
  else if a.1 % 6 = 2 then (sum, rSet a.2.1 a.2.2 r)
  else if a.1 % 6 = 3 then (sum, rNote a.2.1 r)
  else if a.1 % 6 = 4 then (sum, (rAsk (2, a.2.2, r.t.get a.2.1) r).2)
  else (wrap64 (sum + (rSet a.2.2 (rAsk (1, a.2.1, 0) r).1 (rAsk (1, a.2.1, 0) r).2).t.get a.2.2), rSet a.2.2 (rAsk (1, a.2.1, 0) r).1 (rAsk (1, a.2.1, 0) r).2)
def rdoP : List Act3 → Int → RS → Int × RS
  | [], sum, r => (sum, r)
  | a :: l, sum, r => if r.over = true then (sum, r) else rdoP l (ractP a sum r).1 (ractP a sum r).2
theorem rdoP_over (l : List Act3) (sum : Int) (r : RS) (h : r.over = true) : rdoP l sum r = (sum, r) := by
  cases l with
  | nil => rfl
  | cons a l => unfold rdoP; rw [if_pos h]
theorem rdoP_drop {l : List Act3} {k : Nat} (hk : k < l.length) (sum : Int) (r : RS) (h : r.over = false) : rdoP (l.drop k) sum r = rdoP (l.drop (k + 1)) (ractP (l.getD k (0, 0, 0)) sum r).1 (ractP (l.getD k (0, 0, 0)) sum r).2 := by
  rw [List.drop_eq_getElem_cons hk]
  have e : l.getD k (0, 0, 0) = l[k] := by rw [List.getD_eq_getElem?_getD, List.getElem?_eq_getElem hk]; rfl
  rw [e]
  show (if r.over = true then (sum, r) else _) = _
  rw [if_neg (by simp [h])]
theorem rAsk_nts (a : Int × Int × Int) (r : RS) : (rAsk a r).2.t.nts = r.t.nts := by
  unfold rAsk
  split
  · rfl
  · split <;> rfl
theorem rSet_nts (i x : Int) (r : RS) : (rSet i x r).t.nts = r.t.nts := by
  unfold rSet
  split <;> rfl
theorem rNote_nts (k : Int) (r : RS) : (rNote k r).t.nts.length ≤ r.t.nts.length + 1 := by
  unfold rNote
  split
  · omega
  · simp [TS.noted]

set_option maxRecDepth 10000 in
set_option maxHeartbeats 2000000 in
theorem rdo_any (l : List Act3) (A : Option Addr) (c : Nat) (h B : Nat) (r : RS) (w : World) (R : RefIs w h B r) (hl : l.length ≤ 100) (hn : r.t.nts = []) (hr : ActRow w A l) (hlow : ∀ b off, A = some ⟨b, off, none⟩ → 0 < l.length → b < B)
    (hk : ∀ a ∈ l, 0 ≤ a.1 ∧ a.1 ≤ 255) :
    Calls Try.prog 19 #[.pointer (some ⟨h, 0, none⟩), .slice A l.length c] w (RPost (.int .i64 (if (rdoP l 0 r).2.over = true then 0 else (rdoP l 0 r).1)) h B w (rdoP l 0 r).2) := by
  have HR := Lib.hid hr
  have HLOW := Lib.hid hlow
  have HK := Lib.hid hk
  have HT := Lib.hid R
  have HNT := Lib.hid (show r.t.nts.length ≤ 0 by rw [hn]; simp)
  have HDR := Lib.hid (fun k (hk : k < l.length) => rdoP_drop hk)
  have hnot : ∀ (x : Bool) (w : World), (Op.unary .not (.bool x)).run Try.prog w = .ok (.bool (!x)) w := fun _ _ => rfl
  obtain ⟨⟨s0, r0⟩, hr'⟩ : ∃ p, rdoP l 0 r = p := ⟨_, rfl⟩
  have HD0 := Lib.hid (show rdoP (l.drop 0) 0 r = (s0, r0) by rw [List.drop_zero]; exact hr')
  rw [hr']
  simp only
  obtain ⟨vv, hvv⟩ : ∃ vv, (if r0.over = true then 0 else s0) = vv := ⟨_, rfl⟩
  rw [hvv]
  have HV := Lib.hid hvv
  clear hvv
  obtain ⟨n, hn'⟩ : ∃ n, l.length = n := ⟨_, rfl⟩
  have HEND := Lib.hid (show ∀ sum r', rdoP (l.drop n) sum r' = (sum, r') from fun sum s' => by rw [List.drop_of_length_le (by omega)]; rfl)
  have HOV := Lib.hid (show ∀ k sum r', r'.over = true → rdoP (l.drop k) sum r' = (sum, r') from fun k sum r' h => rdoP_over _ _ _ h)
  rw [hn'] at hl HLOW HDR ⊢
  have HN := Lib.hid hn'
  clear hr' hn' R hr hlow hk hn
  go_enter Try.func19, Try.ntmps19
  go_wp2_with fail
  go_loopw [5, 6] (fun u t wr => ∃ (k : Nat) (sum : Int) (r' : RS), k ≤ n ∧ u = .int .i64 sum ∧ t = .int .i64 k ∧ Hid (RefIs wr h B r') ∧ Hid (TK h B w wr) ∧ Hid (rdoP (l.drop k) sum r' = (s0, r0)) ∧ Hid (r'.t.nts.length ≤ k)) (fun _ t _ => n - (intOf t).toNat)
  case atStart => exact ⟨0, 0, r, by omega, rfl, rfl, HT, Lib.hid (TK.refl _ _ _), HD0, HNT⟩
  case round =>
    obtain ⟨k, sum, r', hk, rfl, rfl, HTr, HKr, HDr, HNr⟩ := hrel
    have hov := HTr.out.ov
    have hgs := HTr.out.c.hs
    by_cases hlt : k < n
    · cases ho : r'.over with
      | true =>
        rw [ho] at hov
        have HE := Lib.hid ((HDr.out.symm).trans (HOV.out k sum r' ho))
        obtain ⟨rfl, rfl⟩ : s0 = sum ∧ r0 = r' := by have := HE.out; simp only [Prod.mk.injEq] at this; exact this
        have HO := Lib.hid (show 0 = vv from (if_pos ho).symm.trans HV.out)
        clear ho
        go_wp2_with fail
        go_ret
        exact ⟨by rw [← HO.out]; rfl, HTr.out, HKr.out⟩
      | false =>
        rw [ho] at hov
        obtain ⟨b, off, rfl, h1, h2, h3⟩ := HR.out k (by rw [HN.out]; exact hlt)
        have hb3 := HLOW.out b off rfl (by omega)
        have hsame := HKr.out.block b (cell_lt h1) (by have := HTr.out.c.hB; omega) (Far.low hb3)
        have w1 := (tcell (o := off + k * 3) hsame).trans h1
        have w2 := (tcell (o := off + k * 3 + 1) hsame).trans h2
        have w3 := (tcell (o := off + k * 3 + 2) hsame).trans h3
        have HA := Lib.hid (HDr.out.symm.trans (HDR.out k hlt sum r' ho))
        clear ho
        obtain ⟨hq0, hq1⟩ := HK.out (l.getD k (0, 0, 0)) (by rw [List.getD_eq_getElem?_getD, List.getElem?_eq_getElem (by rw [HN.out]; exact hlt)]; exact List.getElem_mem _)
        have hnts : r'.t.nts.length < 1000000 := by have := HNr.out; omega
        obtain ⟨⟨q, x, y⟩, hqxy⟩ : ∃ p, l.getD k (0, 0, 0) = p := ⟨_, rfl⟩
        rw [hqxy] at w1 w2 w3 HA hq0 hq1
        simp only at w1 w2 w3 hq0 hq1
        clear hqxy h1 h2 h3 hsame HR HLOW
        have hqm : q.tmod 6 = q % 6 := Int.tmod_eq_emod_of_nonneg hq0
        have hHN := Lib.hid hnts
        clear hnts
        unfold ractP at HA
        by_cases h0 : q % 6 = 0
        · simp only [if_pos h0] at HA
          rw [h0] at hqm
          have HQN := Lib.hid (show (rAsk (1, x, 0) r').2.t.nts.length ≤ k by rw [rAsk_nts]; exact HNr.out)
          obtain ⟨⟨xv, r1⟩, hp⟩ : ∃ p, rAsk (1, x, 0) r' = p := ⟨_, rfl⟩
          have HRX := Lib.hid (fun W (hW : RefIs W h B r') => show Calls _ _ _ W (RPost (.int .i64 xv) h B W r1) by have := rread_any h B x r' W hW; rw [hp] at this; exact this)
          rw [hp] at HA HQN
          simp only at HA HQN
          clear hp
          have HRD := Lib.hid (HRX.out _ (HTr.out.up ((Up.refl wr).alloc (.cells #[.int .u8 q, .int .i64 x, .int .i64 y] 89))))
          go_wp2_with fail
          refine HRD.out.mono ?_
          rintro e w4 ⟨rfl, hT4, hK4⟩
          have HT4 := Lib.hid hT4
          have HK4 := Lib.hid (HKr.out.trans ((TK.ofUp ((Up.refl wr).alloc (.cells #[.int .u8 q, .int .i64 x, .int .i64 y] 89))).trans hK4))
          clear hT4 hK4
          go_wp2_with fail
          go_roundw
          case rel => exact ⟨k + 1, _, _, by omega, rfl, by go_num, HT4, HK4, Lib.hid HA.out.symm, Lib.hid (by have := HQN.out; omega)⟩
          case measure => simp [intOf]; omega
        · by_cases h1 : q % 6 = 1
          · simp only [if_neg h0, if_pos h1] at HA
            rw [h1] at hqm
            have HRD := Lib.hid (rwrite_any h B x y r' _ (HTr.out.up ((Up.refl wr).alloc (.cells #[.int .u8 q, .int .i64 x, .int .i64 y] 89))))
            go_wp2_with fail
            refine HRD.out.mono ?_
            rintro e w4 ⟨rfl, hT4, hK4⟩
            have HT4 := Lib.hid hT4
            have HK4 := Lib.hid (HKr.out.trans ((TK.ofUp ((Up.refl wr).alloc (.cells #[.int .u8 q, .int .i64 x, .int .i64 y] 89))).trans hK4))
            clear hT4 hK4
            go_wp2_with fail
            go_roundw
            case rel => exact ⟨k + 1, _, _, by omega, rfl, by go_num, HT4, HK4, Lib.hid HA.out.symm, Lib.hid (by rw [rAsk_nts]; have := HNr.out; omega)⟩
            case measure => simp [intOf]; omega
          · by_cases h2 : q % 6 = 2
            · simp only [if_neg h0, if_neg h1, if_pos h2] at HA
              rw [h2] at hqm
              have HRD := Lib.hid (rset_any h B x y r' _ (HTr.out.up ((Up.refl wr).alloc (.cells #[.int .u8 q, .int .i64 x, .int .i64 y] 89))))
              go_wp2_with fail
              refine HRD.out.mono ?_
              rintro e w4 ⟨rfl, hT4, hK4⟩
              have HT4 := Lib.hid hT4
              have HK4 := Lib.hid (HKr.out.trans ((TK.ofUp ((Up.refl wr).alloc (.cells #[.int .u8 q, .int .i64 x, .int .i64 y] 89))).trans hK4))
              clear hT4 hK4
              go_wp2_with fail
              go_roundw
              case rel => exact ⟨k + 1, _, _, by omega, rfl, by go_num, HT4, HK4, Lib.hid HA.out.symm, Lib.hid (by rw [rSet_nts]; have := HNr.out; omega)⟩
              case measure => simp [intOf]; omega
            · by_cases h3 : q % 6 = 3
              · simp only [if_neg h0, if_neg h1, if_neg h2, if_pos h3] at HA
                rw [h3] at hqm
                have HRD := Lib.hid ((fun W hW => rnote_any h B x r' W hW hHN.out) _ (HTr.out.up ((Up.refl wr).alloc (.cells #[.int .u8 q, .int .i64 x, .int .i64 y] 89))))
                go_wp2_with fail
                refine HRD.out.mono ?_
                rintro e w4 ⟨rfl, hT4, hK4⟩
                have HT4 := Lib.hid hT4
                have HK4 := Lib.hid (HKr.out.trans ((TK.ofUp ((Up.refl wr).alloc (.cells #[.int .u8 q, .int .i64 x, .int .i64 y] 89))).trans hK4))
                clear hT4 hK4
                go_wp2_with fail
                go_roundw
                case rel => exact ⟨k + 1, _, _, by omega, rfl, by go_num, HT4, HK4, Lib.hid HA.out.symm, Lib.hid (by have := rNote_nts x r'; have := HNr.out; omega)⟩
                case measure => simp [intOf]; omega
              · by_cases h4 : q % 6 = 4
                · simp only [if_neg h0, if_neg h1, if_neg h2, if_neg h3, if_pos h4] at HA
                  rw [h4] at hqm
                  have HBX := Lib.hid (heap_alloc_new wr (.cells #[.int .u8 q, .int .i64 x, .int .i64 y] 89))
                  have hS0 : (wr.alloc (.cells #[.int .u8 q, .int .i64 x, .int .i64 y] 89)).drew.cell? ⟨wr.heap.size, 1, none⟩ = some (.int .i64 x) ∧ (wr.alloc (.cells #[.int .u8 q, .int .i64 x, .int .i64 y] 89)).drew.cell? ⟨wr.heap.size, 2, none⟩ = some (.int .i64 y) := ⟨cell_of_row (wr.alloc (.cells #[.int .u8 q, .int .i64 x, .int .i64 y] 89)) _ 1 _ _ _ HBX.out, cell_of_row (wr.alloc (.cells #[.int .u8 q, .int .i64 x, .int .i64 y] 89)) _ 2 _ _ _ HBX.out⟩
                  have HT0 := Lib.hid (HTr.out.up ((Up.refl wr).alloc (.cells #[.int .u8 q, .int .i64 x, .int .i64 y] 89)).drew)
                  have HK0 := Lib.hid (HKr.out.trans (TK.ofUp ((Up.refl wr).alloc (.cells #[.int .u8 q, .int .i64 x, .int .i64 y] 89)).drew))
                  have HGX := Lib.hid (show wr.heap.size ≠ h by omega)
                  have HG := Lib.hid (rget_any h B x r' _ HT0.out)
                  have HWR := Lib.hid (rwrite_any h B y (r'.t.get x) r' _ HT0.out)
                  go_wp2_with fail
                  clear hgs hqm
                  refine wp_region_held_drew (S := (fun w => w.cell? ⟨wr.heap.size, 1, none⟩ = some (.int .i64 x) ∧ w.cell? ⟨wr.heap.size, 2, none⟩ = some (.int .i64 y))) (by kernel_rfl) hS0 (fun hH0 => ?_)
                  refine wpAnyH_take (i := 0) (v := ?_) rfl (by kernel_rfl) (by kernel_rfl) (by kernel_rfl) (fun _ _ _ h => h) (Or.inl ⟨by kernel_rfl, ?_⟩) hH0 ?_
                  rotate_left
                  · intro w hSw
                    try dsimp only at hSw
                    go_simp
                    try (with_reducible rfl)
                  try simp only [Act.put, List.setIfInBounds_toArray, List.set_cons_zero, List.set_cons_succ]
                  refine wpAnyH_take (i := 1) (v := ?_) rfl (by kernel_rfl) (by kernel_rfl) (by kernel_rfl) (fun _ _ _ h => h) (Or.inl ⟨by kernel_rfl, ?_⟩) hH0 ?_
                  rotate_left
                  · intro w hSw
                    try dsimp only at hSw
                    go_simp
                    try (with_reducible rfl)
                  try simp only [Act.put, List.setIfInBounds_toArray, List.set_cons_zero, List.set_cons_succ]
                  refine wpAnyH_take (i := 2) (v := ?_) rfl (by kernel_rfl) (by kernel_rfl) (by kernel_rfl) (fun _ _ _ h => h) (Or.inl ⟨by kernel_rfl, ?_⟩) hH0 ?_
                  rotate_left
                  · intro w hSw
                    try dsimp only at hSw
                    go_simp
                    try (with_reducible rfl)
                  try simp only [Act.put, List.setIfInBounds_toArray, List.set_cons_zero, List.set_cons_succ]
                  refine wpAnyH_take (i := 3) (v := ?_) rfl (by kernel_rfl) (by kernel_rfl) (by kernel_rfl) (fun _ _ _ h => h) (Or.inl ⟨by kernel_rfl, ?_⟩) hH0 ?_
                  rotate_left
                  · intro w hSw
                    try dsimp only at hSw
                    go_simp
                    try (with_reducible rfl)
                  try simp only [Act.put, List.setIfInBounds_toArray, List.set_cons_zero, List.set_cons_succ]
                  refine wpAnyH_take (i := 4) (v := ?_) rfl (by kernel_rfl) (by kernel_rfl) (by kernel_rfl) (fun _ _ _ h => h) (Or.inl ⟨by kernel_rfl, ?_⟩) hH0 ?_
                  rotate_left
                  · intro w hSw
                    try dsimp only at hSw
                    go_simp
                    try (with_reducible rfl)
                  try simp only [Act.put, List.setIfInBounds_toArray, List.set_cons_zero, List.set_cons_succ]
                  refine wpAnyH_take (i := 5) (v := ?_) rfl (by kernel_rfl) (by kernel_rfl) (by kernel_rfl) (fun _ _ _ h => h) (Or.inl ⟨by kernel_rfl, ?_⟩) hH0 ?_
                  rotate_left
                  · intro w hSw
                    try dsimp only at hSw
                    go_simp
                    try (with_reducible rfl)
                  try simp only [Act.put, List.setIfInBounds_toArray, List.set_cons_zero, List.set_cons_succ]
                  refine wpAnyH_ready (rs := [6]) (by kernel_rfl) (by simp) ?_
                  refine AllReadyH.cons rfl (fun K hK => ?_) AllReadyH.nil
                  go_simp
                  refine HG.out.mono ?_
                  rintro e w4 ⟨rfl, rfl⟩
                  refine hK.out _ _ hH0 (fun hH1 => ?_)
                  clear hK K
                  try simp only [Act.put, List.setIfInBounds_toArray, List.set_cons_zero, List.set_cons_succ]
                  refine wpAnyH_ready (rs := [7]) (by kernel_rfl) (by simp) ?_
                  refine AllReadyH.cons rfl (fun K hK => ?_) AllReadyH.nil
                  go_simp
                  refine HWR.out.mono ?_
                  rintro e w4 ⟨rfl, hT4, hK4⟩
                  have hb4 := hK4.one (k := wr.heap.size) HBX.out HGX.out (.inr (by decide))
                  have hS4 : w4.cell? ⟨wr.heap.size, 1, none⟩ = some (.int .i64 x) ∧ w4.cell? ⟨wr.heap.size, 2, none⟩ = some (.int .i64 y) := ⟨cell_of_row w4 _ 1 _ _ _ hb4, cell_of_row w4 _ 2 _ _ _ hb4⟩
                  have HT4 := Lib.hid hT4
                  have HK4 := Lib.hid (HK0.out.trans hK4)
                  clear hT4 hK4 hb4
                  refine hK.out _ _ hS4 (fun hH2 => ?_)
                  clear hK K
                  try simp only [Act.put, List.setIfInBounds_toArray, List.set_cons_zero, List.set_cons_succ]
                  refine wpAnyH_done (by kernel_rfl) ?_ _
                  go_wp2_with fail
                  go_roundw
                  case rel => exact ⟨k + 1, _, _, by omega, rfl, by go_num, HT4, HK4, Lib.hid HA.out.symm, Lib.hid (by rw [rAsk_nts]; have := HNr.out; omega)⟩
                  case measure => simp [intOf]; omega
                · have h5 : q % 6 = 5 := by omega
                  simp only [if_neg h0, if_neg h1, if_neg h2, if_neg h3, if_neg h4] at HA
                  rw [h5] at hqm
                  have HBX := Lib.hid (heap_alloc_new wr (.cells #[.int .u8 q, .int .i64 x, .int .i64 y] 89))
                  have hS0 : (wr.alloc (.cells #[.int .u8 q, .int .i64 x, .int .i64 y] 89)).drew.cell? ⟨wr.heap.size, 1, none⟩ = some (.int .i64 x) ∧ (wr.alloc (.cells #[.int .u8 q, .int .i64 x, .int .i64 y] 89)).drew.cell? ⟨wr.heap.size, 2, none⟩ = some (.int .i64 y) := ⟨cell_of_row (wr.alloc (.cells #[.int .u8 q, .int .i64 x, .int .i64 y] 89)) _ 1 _ _ _ HBX.out, cell_of_row (wr.alloc (.cells #[.int .u8 q, .int .i64 x, .int .i64 y] 89)) _ 2 _ _ _ HBX.out⟩
                  have HT0 := Lib.hid (HTr.out.up ((Up.refl wr).alloc (.cells #[.int .u8 q, .int .i64 x, .int .i64 y] 89)).drew)
                  have HK0 := Lib.hid (HKr.out.trans (TK.ofUp ((Up.refl wr).alloc (.cells #[.int .u8 q, .int .i64 x, .int .i64 y] 89)).drew))
                  have HGX := Lib.hid (show wr.heap.size ≠ h by omega)
                  have HRD := Lib.hid (rread_any h B x r' _ HT0.out)
                  have HQN := Lib.hid (show (rAsk (1, x, 0) r').2.t.nts.length ≤ k by rw [rAsk_nts]; exact HNr.out)
                  obtain ⟨⟨xv, r1⟩, hp⟩ : ∃ p, rAsk (1, x, 0) r' = p := ⟨_, rfl⟩
                  rw [hp] at HRD HA HQN
                  simp only at HRD HA HQN
                  clear hp
                  have HSE := Lib.hid (fun W => rset_any h B y xv r1 W)
                  have HGE := Lib.hid (fun W => rget_any h B y (rSet y xv r1) W)
                  go_wp2_with fail
                  clear hgs hqm
                  refine wp_region_held_drew (S := (fun w => w.cell? ⟨wr.heap.size, 1, none⟩ = some (.int .i64 x) ∧ w.cell? ⟨wr.heap.size, 2, none⟩ = some (.int .i64 y))) (by kernel_rfl) hS0 (fun hH0 => ?_)
                  refine wpAnyH_take (i := 0) (v := ?_) rfl (by kernel_rfl) (by kernel_rfl) (by kernel_rfl) (fun _ _ _ h => h) (Or.inl ⟨by kernel_rfl, ?_⟩) hH0 ?_
                  rotate_left
                  · intro w hSw
                    try dsimp only at hSw
                    go_simp
                    try (with_reducible rfl)
                  try simp only [Act.put, List.setIfInBounds_toArray, List.set_cons_zero, List.set_cons_succ]
                  refine wpAnyH_take (i := 1) (v := ?_) rfl (by kernel_rfl) (by kernel_rfl) (by kernel_rfl) (fun _ _ _ h => h) (Or.inl ⟨by kernel_rfl, ?_⟩) hH0 ?_
                  rotate_left
                  · intro w hSw
                    try dsimp only at hSw
                    go_simp
                    try (with_reducible rfl)
                  try simp only [Act.put, List.setIfInBounds_toArray, List.set_cons_zero, List.set_cons_succ]
                  refine wpAnyH_take (i := 2) (v := ?_) rfl (by kernel_rfl) (by kernel_rfl) (by kernel_rfl) (fun _ _ _ h => h) (Or.inl ⟨by kernel_rfl, ?_⟩) hH0 ?_
                  rotate_left
                  · intro w hSw
                    try dsimp only at hSw
                    go_simp
                    try (with_reducible rfl)
                  try simp only [Act.put, List.setIfInBounds_toArray, List.set_cons_zero, List.set_cons_succ]
                  refine wpAnyH_take (i := 3) (v := ?_) rfl (by kernel_rfl) (by kernel_rfl) (by kernel_rfl) (fun _ _ _ h => h) (Or.inl ⟨by kernel_rfl, ?_⟩) hH0 ?_
                  rotate_left
                  · intro w hSw
                    try dsimp only at hSw
                    go_simp
                    try (with_reducible rfl)
                  try simp only [Act.put, List.setIfInBounds_toArray, List.set_cons_zero, List.set_cons_succ]
                  refine wpAnyH_take (i := 4) (v := ?_) rfl (by kernel_rfl) (by kernel_rfl) (by kernel_rfl) (fun _ _ _ h => h) (Or.inl ⟨by kernel_rfl, ?_⟩) hH0 ?_
                  rotate_left
                  · intro w hSw
                    try dsimp only at hSw
                    go_simp
                    try (with_reducible rfl)
                  try simp only [Act.put, List.setIfInBounds_toArray, List.set_cons_zero, List.set_cons_succ]
                  refine wpAnyH_take (i := 5) (v := ?_) rfl (by kernel_rfl) (by kernel_rfl) (by kernel_rfl) (fun _ _ _ h => h) (Or.inl ⟨by kernel_rfl, ?_⟩) hH0 ?_
                  rotate_left
                  · intro w hSw
                    try dsimp only at hSw
                    go_simp
                    try (with_reducible rfl)
                  try simp only [Act.put, List.setIfInBounds_toArray, List.set_cons_zero, List.set_cons_succ]
                  refine wpAnyH_ready (rs := [6]) (by kernel_rfl) (by simp) ?_
                  refine AllReadyH.cons rfl (fun K hK => ?_) AllReadyH.nil
                  go_simp
                  refine HRD.out.mono ?_
                  rintro e w4 ⟨rfl, hT4, hK4⟩
                  have HB4 := Lib.hid (hK4.one (k := wr.heap.size) HBX.out HGX.out (.inr (by decide)))
                  have hS4 : w4.cell? ⟨wr.heap.size, 1, none⟩ = some (.int .i64 x) ∧ w4.cell? ⟨wr.heap.size, 2, none⟩ = some (.int .i64 y) := ⟨cell_of_row w4 _ 1 _ _ _ HB4.out, cell_of_row w4 _ 2 _ _ _ HB4.out⟩
                  have HT4 := Lib.hid hT4
                  have HK4 := Lib.hid (HK0.out.trans hK4)
                  clear hT4 hK4
                  refine hK.out _ _ hS4 (fun hH1 => ?_)
                  clear hK K
                  try simp only [Act.put, List.setIfInBounds_toArray, List.set_cons_zero, List.set_cons_succ]
                  clear hS4
                  refine wpAnyH_ready (rs := [7]) (by kernel_rfl) (by simp) ?_
                  refine AllReadyH.cons rfl (fun K hK => ?_) AllReadyH.nil
                  go_simp
                  refine (HSE.out w4 HT4.out).mono ?_
                  rintro e w5 ⟨rfl, hT5, hK5⟩
                  have hb5 := hK5.one (k := wr.heap.size) HB4.out HGX.out (.inr (by decide))
                  have hS5 : w5.cell? ⟨wr.heap.size, 1, none⟩ = some (.int .i64 x) ∧ w5.cell? ⟨wr.heap.size, 2, none⟩ = some (.int .i64 y) := ⟨cell_of_row w5 _ 1 _ _ _ hb5, cell_of_row w5 _ 2 _ _ _ hb5⟩
                  have HT5 := Lib.hid hT5
                  have HK5 := Lib.hid (HK4.out.trans hK5)
                  clear hT5 hK5 hb5
                  refine hK.out _ _ hS5 (fun hH2 => ?_)
                  clear hK K
                  try simp only [Act.put, List.setIfInBounds_toArray, List.set_cons_zero, List.set_cons_succ]
                  refine wpAnyH_done (by kernel_rfl) ?_ _
                  have hS52 := hS5.2
                  clear hS5 hH2 hH1 hH0 hS0
                  go_wp2_with fail
                  refine (HGE.out w5 HT5.out).mono ?_
                  rintro e w6 ⟨rfl, rfl⟩
                  go_wp2_with fail
                  go_roundw
                  case rel => exact ⟨k + 1, _, _, by omega, rfl, by go_num, HT5, HK5, Lib.hid HA.out.symm, Lib.hid (by rw [rSet_nts]; have := HQN.out; omega)⟩
                  case measure => simp [intOf]; omega
    · obtain rfl : k = n := by omega
      have HE := Lib.hid ((HDr.out.symm).trans (HEND.out sum r'))
      obtain ⟨rfl, rfl⟩ : s0 = sum ∧ r0 = r' := by have := HE.out; simp only [Prod.mk.injEq] at this; exact this
      cases ho : r0.over with
      | true =>
        rw [ho] at hov
        have HO := Lib.hid (show 0 = vv from (if_pos ho).symm.trans HV.out)
        clear ho
        go_wp2_with fail
        go_ret
        exact ⟨by rw [← HO.out]; rfl, HTr.out, HKr.out⟩
      | false =>
        rw [ho] at hov
        have HO := Lib.hid (show s0 = vv from (if_neg (by simp [ho])).symm.trans HV.out)
        clear ho
        go_wp2_with fail
        go_ret
        exact ⟨by rw [← HO.out]; rfl, HTr.out, HKr.out⟩

end Go.Proofs.Ytpandnodeldbjaa
