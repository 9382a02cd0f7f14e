/-
  The walk of WireBack.
-/
import Derived.Test.YtjbphkcbfhhgbaaBackP
import Derived.Deep.RegionHeld3
set_option linter.unusedVariables false
set_option linter.unusedSimpArgs false
namespace Go.Proofs.Ytjbphkcbfhhgbaa
open Go.RowKit

theorem own_mono {w : World} {B B' : Nat} {e : TypeId} {size n : Nat} {v : Value} {xs : List Value} (h : w.ownsRow B e size v n xs) (hB : B' ≤ B) : w.ownsRow B' e size v n xs := by
  rcases h.2 with h1 | ⟨g, cap, cur, h1, h2, h3⟩
  · exact ⟨h.1, .inl h1⟩
  · exact ⟨h.1, .inr ⟨g, cap, cur, h1, Nat.le_trans hB h2, h3⟩⟩

def UVal (l : List Int) : Nat → Value := fun k => .int .u32 (l.getD k 0)
/-- The numbers that are put. -/
def nums (l : List Int) : List Int := l.map (· % 1073741824)
theorem nums_get {l : List Int} {k : Nat} (h : k < l.length) : (nums l).getD k 0 = l.getD k 0 % 1073741824 := by
  unfold nums
  rw [List.getD_eq_getElem?_getD, List.getD_eq_getElem?_getD, List.getElem?_map, List.getElem?_eq_getElem h]
  rfl

theorem row_take {w : World} {A : Option Addr} {n k : Nat} {l : List UInt8} (h : Row w A n (BVal l)) (hk : k ≤ n) : Row w A k (BVal (l.take k)) := fun j hj => by
  obtain ⟨b, off, e, hc⟩ := h j (by omega)
  refine ⟨b, off, e, ?_⟩
  rw [hc]
  unfold BVal
  rw [List.getD_eq_getElem?_getD, List.getD_eq_getElem?_getD, List.getElem?_take, if_pos hj]

set_option maxHeartbeats 2000000 in
theorem wireBack_any (u : List Int) (bs : List UInt8) (U : Option Addr) (d : Nat) (A : Option Addr) (c : Nat) (w : World) (hA : A = none → c = 0) (hum : u.length ≤ 9223372036854775807) (hbm : bs.length ≤ c) (hcm : c ≤ 9223372036854775807)
    (hwf : ∀ n ∈ u, 0 ≤ n ∧ n ≤ 4294967295) (hru : Row w U u.length (UVal u)) (hrow : Row w A bs.length (BVal bs)) :
    Calls Try.prog 4 #[.slice U u.length d, .slice A bs.length c] w fun e w' => e = .returned (.bool true) ∧ Below w.heap.size w w' := by
  have HAL := Lib.hid (fun W : World => alive_any W)
  by_cases hs : u.length ≤ 60 ∧ bs.length ≤ 100
  · have HP := Lib.hid (fun (W : World) (out : List UInt8) (x : Int) (A : Option Addr) (c : Nat) (L : Option Addr) (d : Nat) (hA : A = none → c = 0) (ho : out.length ≤ 10000) (h : Row W A out.length (BVal out)) (hl : Row W L 1 (IVal [x])) =>
      show Calls Try.prog 9 #[.slice A out.length c, .slice L 1 d] W fun e w' => OwnB (out ++ putL x) W e w' from
        (show putAll [x] = putL x by simp [putAll]) ▸ put_any out [x] A c L d W hA ho (by simp) h hl)
    have HRU := Lib.hid hru
    have HRB := Lib.hid hrow
    have HA := Lib.hid hA
    have HWF := Lib.hid (show ∀ k, k < u.length → 0 ≤ u.getD k 0 ∧ u.getD k 0 ≤ 4294967295 from fun k hk => by rw [getD_lt hk]; exact hwf _ (List.getElem_mem hk))
    have HCC := Lib.hid (show bs.length ≤ c ∧ c ≤ 9223372036854775807 from ⟨hbm, hcm⟩)
    obtain ⟨n, hn⟩ : ∃ n, bs.length = n := ⟨_, rfl⟩
    obtain ⟨m, hm⟩ : ∃ m, u.length = m := ⟨_, rfl⟩
    rw [hn] at HRB HCC hs ⊢
    rw [hm] at HRU HWF hs ⊢
    have HN := Lib.hid hn
    have HM := Lib.hid hm
    obtain ⟨hm60, hn100⟩ := hs
    have im : (m : Int) ≤ 60 := by omega
    have inn : (n : Int) ≤ 100 := by omega
    clear hn hm hbm hum hrow hru hA hcm hwf
    go_enter Try.func4, Try.ntmps4
    go_wp2_with fail
    go_loopw [5, 6] (fun v t wr => ∃ k : Nat, k ≤ m ∧ t = .int .i64 k ∧ Hid (wr.ownsRow w.heap.size 5 1 v (putAll ((nums u).take k)).length (bcells (putAll ((nums u).take k)))) ∧ Hid (Below w.heap.size w wr)) (fun _ t _ => m - (intOf t).toNat)
    case atStart => exact ⟨0, by omega, rfl, Lib.hid (own_nil _ _ _ _), Lib.hid (Below.refl _ _)⟩
    case round =>
      obtain ⟨k, hk, rfl, HO, HW⟩ := hrel
      by_cases hlt : k < m
      · obtain ⟨b, off, rfl, hc⟩ := HRU.out k hlt
        have hc := (HW.out.cell (p := ⟨b, off + k, none⟩) (cell_lt hc)).trans hc
        unfold UVal at hc
        obtain ⟨hx0, hx1⟩ := HWF.out k hlt
        have HX := Lib.hid (nums_get (l := u) (k := k) (by rw [HM.out]; exact hlt))
        have HT := Lib.hid (show putAll ((nums u).take (k + 1)) = putAll ((nums u).take k) ++ putL ((nums u).getD k 0) from putAll_take _ _ (by unfold nums; rw [List.length_map, HM.out]; exact hlt))
        have HTL := Lib.hid (show (putAll ((nums u).take k)).length ≤ 300 by
          have h1 := putAll_length ((nums u).take k)
          rw [List.length_take] at h1
          omega)
        generalize u.getD k 0 = x at *
        obtain ⟨A1, c1, rfl, hr1, hc1, hA1, hm1, hlt1⟩ := own_parts HO.out
        have HA1 := Lib.hid hA1
        have HR1 := Lib.hid hr1
        generalize hout : putAll ((nums u).take k) = out at *
        clear hr1 hA1 hlt1 hm1 hc1
        have hy0 : 0 ≤ x % 1073741824 := by omega
        have hy1 : x % 1073741824 ≤ 1073741823 := by omega
        have ht : x.tmod 1073741824 = x % 1073741824 := Int.tmod_eq_emod_of_nonneg hx0
        generalize x % 1073741824 = y at *
        go_wp2_with fail
        refine (HP.out _ out y A1 c1 _ _ HA1.out (by have := HTL.out; omega) (HR1.out.up ((Up.refl wr).alloc _)) (row_lit wr [y] 3)).mono ?_
        rintro e w1 ⟨v1, rfl, hown1, hb1⟩
        have HO2 := Lib.hid (show w1.ownsRow w.heap.size 5 1 v1 (putAll ((nums u).take (k + 1))).length (bcells (putAll ((nums u).take (k + 1)))) by
          rw [HT.out, HX.out]
          exact own_mono hown1 (by have := HW.out.size; simp; omega))
        have HW2 := Lib.hid ((HW.out.alloc HW.out.size _).trans (hb1.mono (by have := HW.out.size; simp; omega)))
        clear hown1 hb1
        go_wp2_with fail
        go_roundw
        case rel => exact ⟨k + 1, by omega, by go_num, HO2, HW2⟩
        case measure => simp [intOf]; omega
      · obtain rfl : k = m := by omega
        obtain ⟨i0, hi, hz0, hz1, hz2⟩ := info_parts infoB
        have HI := Lib.hid hi
        have HZ0 := Lib.hid hz0
        have HZ1 := Lib.hid hz1
        have HZ2 := Lib.hid hz2
        have hto := HO.out
        rw [List.take_of_length_le (by unfold nums; rw [List.length_map, HM.out]; exact Nat.le_refl _)] at hto
        have HOF := Lib.hid hto
        have HRBW := Lib.hid (HRB.out.below (HW.out.mono (Nat.le_refl _)))
        have HL2 := Lib.hid (range_bval bs)
        rw [HN.out] at HL2
        have H1 := Lib.hid (show ∀ z ∈ (List.range n).map (BVal bs), z.oneCell' = true by rw [HL2.out]; exact bval_one bs)
        have HPL := Lib.hid (show (putAll (nums u)).length ≤ 300 by
          have h1 := putAll_length (nums u)
          unfold nums at h1 ⊢
          rw [List.length_map, HM.out] at h1
          omega)
        have HLEN := Lib.hid (show ((putAll (nums u)).length + n) * 1 ≤ 140737488355328 by have := HPL.out; omega)
        have hBW : w.heap.size ≤ wr.heap.size := HW.out.size
        clear hi hz0 hz1 hz2 hto HO
        go_wp2_with (at_builtin; refine wpList_appendRow rfl _ _ 22 rfl w.heap.size 5 i0 _ 1 Try.underlying22 HI.out HZ0.out HZ1.out HZ2.out rfl _ _ _ rfl HOF.out _ _ _ (BVal bs) rfl HA.out HRBW.out H1.out (by decide) HLEN.out hBW ?_; intro v2 w2 hown2 hgx hb2; clear hgx)
        rw [HL2.out, ← bcells_append] at hown2
        have HLE := Lib.hid (show (putAll (nums u)).length + n = (putAll (nums u) ++ bs).length by rw [List.length_append, HN.out])
        rw [HLE.out] at hown2
        obtain ⟨A2, c2, rfl, hr2, hc2, hA2, hm2, hlt2⟩ := own_parts hown2
        have CN := Lib.hid (newR_any (putAll (nums u) ++ bs) A2 c2 w2 hA2 (by rw [List.length_append, HN.out]; have := HPL.out; omega) hr2)
        have HW2 := Lib.hid (HW.out.trans hb2)
        clear hr2 hc2 hA2 hm2 hlt2 hb2 hown2 HRBW HOF
        go_wp2_with fail
        refine CN.out.mono ?_
        rintro e w3 ⟨g, rfl, hg3, hb3⟩
        have HG3 := Lib.hid hg3
        have HGB := Lib.hid (show w.heap.size ≤ w2.heap.size from HW2.out.size)
        have HW3 := Lib.hid (HW2.out.trans (hb3.mono HW2.out.size))
        clear hg3 hb3 CN
        have HGX := Lib.hid (show ReaderIs w3 g w2.heap.size w3.heap.size (putAll ((nums u).drop 0) ++ bs, 0) from HG3.out)
        clear HG3 HI HZ0 HZ1 HZ2 HLEN hBW HL2 H1 HP
        go_wp2_with fail
        generalize w3.heap.size = C at *
        generalize w2.heap.size = B at *
        go_loopw [8] (fun t wx => ∃ j : Nat, j ≤ k ∧ t = .int .i64 j ∧ Hid (ReaderIs wx g B C (putAll ((nums u).drop j) ++ bs, 0)) ∧ Hid (Below w.heap.size w wx)) (fun t _ => k - (intOf t).toNat)
        case atStart => exact ⟨0, by omega, rfl, HGX, HW3⟩
        case round =>
          obtain ⟨wx, rfl⟩ : ∃ wx : World, wx = wr := ⟨_, rfl⟩
          clear HGX HW3 HW2
          obtain ⟨j, hj, rfl, HG, HW⟩ := hrel
          by_cases hlt : j < k
          · obtain ⟨b, off, rfl, hc⟩ := HRU.out j hlt
            have hbs := cell_lt hc
            have hc := (HW.out.cell (p := ⟨b, off + j, none⟩) hbs).trans hc
            unfold UVal at hc
            obtain ⟨hx0, hx1⟩ := HWF.out j hlt
            have hX := nums_get (l := u) (k := j) (by rw [HM.out]; exact hlt)
            have hlen : j < (nums u).length := by unfold nums; rw [List.length_map, HM.out]; exact hlt
            generalize u.getD j 0 = x at *
            have hy0 : 0 ≤ x % 1073741824 := by omega
            have hy1 : x % 1073741824 ≤ 1073741823 := by omega
            have ht : x.tmod 1073741824 = x % 1073741824 := Int.tmod_eq_emod_of_nonneg hx0
            generalize x % 1073741824 = y at *
            have hst : putAll ((nums u).drop j) ++ bs = putL y ++ (putAll ((nums u).drop (j + 1)) ++ bs) := by
              rw [List.drop_eq_getElem_cons hlen, putAll_cons, ← getD_lt hlen, hX, List.append_assoc]
            have HNU := Lib.hid (fun (W : World) (hr : ReaderIs W g B C (putAll ((nums u).drop j) ++ bs, 0)) (hb : Below w.heap.size w W) (hcw : W.cell? ⟨b, off + j, none⟩ = some (.int .u32 x)) =>
              (numR_any g B C 1073741824 (putAll ((nums u).drop j) ++ bs, 0) W hr).mono (fun e w' q => show e = .returned (.int .i64 y) ∧ ReaderIs w' g B C (putAll ((nums u).drop (j + 1)) ++ bs, 0) ∧ Below w.heap.size w w' ∧ w'.cell? ⟨b, off + j, none⟩ = some (.int .u32 x) by
                obtain ⟨q1, q2, _, _, q5⟩ := q
                rw [hst, numS_putL y hy0 hy1] at q1 q2
                exact ⟨q1, q2, hb.trans (q5.mono HGB.out), ((q5.mono HGB.out).cell (p := ⟨b, off + j, none⟩) hbs).trans hcw⟩))
            have hcd : wx.drew.cell? ⟨b, off + j, none⟩ = some (.int .u32 x) := hc
            have HGD := Lib.hid (HG.out.below (Below.drew (Below.refl _ _)))
            have HWD := Lib.hid HW.out.drew
            have hwu : IntKind.u32.wrap y = y := by rw [IntKind.wrap_u32]; omega
            have hwi2 : IntKind.i64.wrap y = y := by simp [IntKind.wrap, IntKind.bits, IntKind.signed]; omega
            have hwi : wrap64 y = y := IntWalk.wrap64_in _ ⟨by omega, by omega⟩
            clear HG HW hX hst hlen
            go_wp2_with fail
            go_region_held3 (fun w' => w'.cell? ⟨b, off + j, none⟩ = some (.int .u32 x)) (first | exact hcd | assumption) (first | (go_at_call 12; refine (HNU.out _ HGD.out HWD.out hcd).mono ?_; rintro e w4 ⟨rfl, hr4, hb4, hc4⟩))
            all_goals
              try simp only [ht, hwu, hwi2, hwi, bne_self_eq_false]
              go_wp2_with fail
              go_roundw
              case rel => exact ⟨j + 1, by omega, by go_num, Lib.hid hr4, Lib.hid hb4⟩
              case measure => simp [intOf]; omega
          · obtain rfl : j = k := by omega
            have hg := HG.out
            rw [List.drop_eq_nil_of_le (by unfold nums; rw [List.length_map, HM.out]; exact Nat.le_refl _)] at hg
            have HGE := Lib.hid (show ReaderIs wx g B C (bs, 0) from hg)
            have HE0 := Lib.hid (errR_any g B C (bs, 0) wx hg)
            have hle := leftR_any g B C (bs, 0) wx hg
            have hls : leftS (bs, 0) = n := by unfold leftS; rw [if_pos rfl, HN.out]
            rw [hls] at hle
            have HLE := Lib.hid hle
            clear hg hle hls HG
            go_wp2_with fail
            refine HE0.out.mono ?_
            rintro e wz ⟨rfl, rfl⟩
            go_wp2_with fail
            refine HLE.out.mono ?_
            rintro e wz ⟨rfl, rfl⟩
            go_wp2_with fail
            rcases numS_end bs with ⟨f, hf, hS⟩ | ⟨x, kk, hx, hkn, hk0, hS, hput⟩
            · have cn := numR_any g B C 1073741824 (bs, 0) wx HGE.out
              rw [hS] at cn
              have CN := Lib.hid cn
              have hne : ((f : Int) != 0) = true := by simpa using hf
              have HLB := Lib.hid (fun W h => leftR_any g B C (bs, f) W h)
              have hls : leftS (bs, f) = 0 := by unfold leftS; rw [if_neg hf]
              rw [hls] at HLB
              have HEB := Lib.hid (fun W h => errR_any g B C (bs, f) W h)
              clear cn hf hS hls HE0 HLE
              refine CN.out.mono ?_
              rintro e wz ⟨rfl, hz, -, -, hbz⟩
              have HZ := Lib.hid hz
              have HWZ := Lib.hid (HW.out.trans (hbz.mono HGB.out))
              clear hz hbz
              go_wp2_with fail
              refine (HEB.out _ HZ.out).mono ?_
              rintro e wy ⟨rfl, rfl⟩
              go_wp2_with fail
              refine (HLB.out _ HZ.out).mono ?_
              rintro e wy ⟨rfl, rfl⟩
              go_wp2_with fail
              refine (HAL.out _).mono ?_
              rintro e wy ⟨rfl, hby⟩
              have HWY := Lib.hid (HWZ.out.trans (hby.mono HWZ.out.size))
              go_wp2_with fail
              go_ret
              exact ⟨rfl, HWY.out⟩
            · have cn := numR_any g B C 1073741824 (bs, 0) wx HGE.out
              rw [hS] at cn
              have CN := Lib.hid cn
              have HLB := Lib.hid (fun W h => leftR_any g B C (bs.drop kk, 0) W h)
              have hls : leftS (bs.drop kk, 0) = n - kk := by unfold leftS; rw [if_pos rfl, List.length_drop, HN.out]
              rw [hls] at HLB
              have HEB := Lib.hid (fun W h => errR_any g B C (bs.drop kk, 0) W h)
              have htl : (bs.take kk).length = kk := by rw [List.length_take, HN.out]; rw [HN.out] at hkn; omega
              have HPX := Lib.hid (fun (W : World) (L : Option Addr) (d : Nat) (h : Row W L 1 (IVal [(x : Int)])) => show Calls Try.prog 9 #[.slice none 0 0, .slice L 1 d] W fun e w' => OwnB (bs.take kk) W e w' from
                (show [] ++ putAll [(x : Int)] = bs.take kk by simp [putAll, hput]) ▸ put_any [] [(x : Int)] none 0 L d W (fun _ => rfl) (by decide) (by simp) (Row.nil _ _ _) h)
              have HTL := Lib.hid htl
              rw [HN.out] at hkn
              clear cn hS hls HE0 HLE htl hput
              refine CN.out.mono ?_
              rintro e wz ⟨rfl, hz, -, -, hbz⟩
              have HZ := Lib.hid hz
              have HWZ := Lib.hid (HW.out.trans (hbz.mono HGB.out))
              clear hz hbz
              go_wp2_with fail
              refine (HEB.out _ HZ.out).mono ?_
              rintro e wy ⟨rfl, rfl⟩
              go_wp2_with fail
              refine (HPX.out _ _ _ (row_lit wz [(x : Int)] 3)).mono ?_
              rintro e wy ⟨v4, rfl, hown4, hb4⟩
              have HWA := Lib.hid (HWZ.out.alloc HWZ.out.size (.cells #[.int .i64 (x : Int)] 3))
              have HZA := Lib.hid ((HZ.out.below ((Below.refl wz.heap.size wz).alloc (Nat.le_refl _) (.cells #[.int .i64 (x : Int)] 3))).below hb4)
              have HWY := Lib.hid (HWA.out.trans (hb4.mono HWA.out.size))
              obtain ⟨A4, c4, rfl, hr4, hc4, hA4, hm4, hlt4⟩ := own_parts hown4
              rw [HTL.out] at hr4 ⊢
              obtain ⟨b0, off0, rfl, _⟩ := HRB.out 0 (by omega)
              obtain ⟨str, hstr⟩ : ∃ str, (⟨(bs.take kk).toArray⟩ : ByteArray) = str := ⟨_, rfl⟩
              have HCV := Lib.hid (show ∀ W : World, Below wy.drew.heap.size wy.drew W →
                  (convert 22 9 (.slice A4 kk c4)).run Try.prog W = .ok (.string str) W ∧ (convert 22 9 (.slice (some ⟨b0, off0, none⟩) kk c)).run Try.prog W = .ok (.string str) W from fun W hW => by
                have h1 := conv_bytes (bs.take kk) A4 c4 W (by rw [HTL.out]; exact (hr4.below (Below.drew (Below.refl _ _))).below hW)
                have h2 := conv_bytes (bs.take kk) (some ⟨b0, off0, none⟩) c W (by rw [HTL.out]; exact row_take (HRB.out.below (HWY.out.drew.trans (hW.mono HWY.out.drew.size))) hkn)
                rw [HTL.out, hstr] at h1 h2
                exact ⟨h1, h2⟩)
              have hS0 := HCV.out _ (Below.refl _ _)
              clear hr4 hc4 hA4 hm4 hlt4 hb4 hown4 HWA HZ HWZ hstr
              have HZD := Lib.hid (HZA.out.below (Below.drew (Below.refl _ _)))
              have HWD := Lib.hid HWY.out.drew
              obtain ⟨r, hr⟩ : ∃ r, n - kk = r := ⟨_, rfl⟩
              rw [hr] at HLB
              have hw64 : wrap64 ((n : Int) - (r : Int)) = (kk : Int) := by rw [IntWalk.wrap64_in _ ⟨by omega, by omega⟩]; omega
              have hwi64 : IntKind.i64.wrap ((n : Int) - (r : Int)) = (kk : Int) := by simp [IntKind.wrap, IntKind.bits, IntKind.signed]; omega
              have hkc : (kk : Int) ≤ (c : Int) := by have := HCC.out; omega
              have hk00 : (0 : Int) ≤ (kk : Int) := by omega
              go_wp2_with fail
              go_region_held3 (fun w' => (convert 22 9 (.slice A4 kk c4)).run Try.prog w' = .ok (.string str) w' ∧ (convert 22 9 (.slice (some ⟨b0, off0, none⟩) kk c)).run Try.prog w' = .ok (.string str) w') (first | exact hS0 | assumption) (first
                | (go_at_call 14; refine (HLB.out _ HZD.out).mono ?_; rintro e w8 ⟨rfl, rfl⟩)
                | (go_at_call 7; refine (HAL.out _).mono ?_; rintro e w9 ⟨rfl, hb9⟩; have HU9 := Lib.hid (HWD.out.trans (hb9.mono HWD.out.size)); have hS9 := HCV.out _ hb9))
              all_goals
                go_wp2_with fail
                go_ret
                exact ⟨rfl, HU9.out⟩
  · clear hrow hru hA hwf hbm
    generalize bs.length = n at *
    generalize u.length = m at *
    by_cases h1 : 60 < m
    · have h1' : (60 : Int) < (m : Int) := by omega
      clear hs
      go_enter Try.func4, Try.ntmps4
      go_wp2_with fail
      refine (HAL.out _).mono ?_
      rintro e w3 ⟨rfl, hb3⟩
      go_wp2_with fail
      go_ret
      exact ⟨rfl, hb3⟩
    · have h1' : ¬ (60 : Int) < (m : Int) := by omega
      have h2' : (100 : Int) < (n : Int) := by omega
      clear hs
      go_enter Try.func4, Try.ntmps4
      go_wp2_with fail
      refine (HAL.out _).mono ?_
      rintro e w3 ⟨rfl, hb3⟩
      go_wp2_with fail
      go_ret
      exact ⟨rfl, hb3⟩

end Go.Proofs.Ytjbphkcbfhhgbaa
