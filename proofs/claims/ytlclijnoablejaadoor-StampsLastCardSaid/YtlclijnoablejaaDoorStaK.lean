/-
  The document's new stamp (it calls itself).
-/
import Derived.Test.YtlclijnoablejaaDoorStaJ
import Derived.Laws.AppendOwnNone
import Derived.Deep.RegionHeld3
set_option linter.unusedVariables false
set_option linter.unusedSimpArgs false
namespace Go.Proofs.YtlclijnoablejaaDoor
open Go.RowKit

/-- 'append(out, xs...)' in a region that draws its order: out of the call's own, xs reads as f, nil or not. -/
theorem step_appendRow {P : Program} {ops : Array Oper} {o : Oper} {a : Act} {K : Act → World → Prop} {Q : Exit → Act → World → Prop} {E : Prop} {w : World} (hgd : o.guard = none) (s x : Operand) (t : TypeId)
    (ho : o.op = .call { callee := .builtin .append, args := #[s, x], argTypes := #[t, t] })
    (B : Nat) (e : TypeId) (i : TypeInfo) (z : Value) (bytes : Nat) (ht : P.underlying t = some (.slice e)) (hi : P.info? e = some i) (hz : i.zero = some z)
    (hsize : i.size = 1) (hby : i.bytes = bytes) (hzs : z.cells.size = 1)
    (v : Value) (n : Nat) (xs : List Value) (hs : a.eval s = v) (hown : w.ownsRow B e 1 v n xs)
    (A : Option Addr) (m c : Nat) (f : Nat → Value) (hx : a.eval x = .slice A m c) (hA : A = none → c = 0) (hr : Row w A m f) (h1 : ∀ u ∈ (List.range m).map f, u.oneCell' = true)
    (hb1 : 0 < bytes) (hbytes : (n + m) * bytes ≤ 140737488355328) (hB : B ≤ w.heap.size)
    (h : ∀ v' w', w'.ownsRow B e 1 v' (n + m) (xs ++ (List.range m).map f) → w.grownBy w' v.ownBlock → Below B w w' → K (a.put o.dst v') w') :
    if Region.wanted o (yielded ops a.tmps) = true then Oper.wp P o a w K Q else E := by
  have hw : Region.wanted o (yielded ops a.tmps) = true := by simp [Region.wanted, hgd]
  rw [if_pos hw]
  have h63 : n + m ≤ maxLen := by
    have : n + m ≤ (n + m) * bytes := Nat.le_mul_of_pos_right _ hb1
    unfold maxLen; omega
  cases A with
  | none =>
    have hm : m = 0 := row_none hr
    have hc := hA rfl
    subst hm
    subst hc
    have hrun := run_append_owned_none (P := P) (w := w) B t o.type e i 1 ht hi v n xs hown
    unfold Oper.wp
    simp [execOp, ho, resolve, invoke, builtin, hs, hx, hrun, Result.andThen]
    exact h v w (by simpa using hown) (World.grownBy.refl w _) (Below.refl _ _)
  | some ad =>
    refine wp_append_own w s x t ho B e i z 1 bytes ht hi hz hsize hby hzs (by decide) v n xs hs hown ad m c ((List.range m).map f) hx (by simp) ?_ h1 h63 hbytes hB ?_
    · intro j u hu
      have hj : j < m := by
        have := (List.getElem?_eq_some_iff.1 hu).1
        simpa using this
      obtain ⟨b, off, he, hc⟩ := hr j hj
      injection he with he
      subst he
      rw [Go.WideShapes.add_plain, hc]
      rw [List.getElem?_map, List.getElem?_range hj] at hu
      exact hu
    · intro v' w' hown' hg _
      exact h v' w' hown' hg (grownBy_below hg hB (own_ge hown))

theorem overP_nil : ∀ k, overP k [] = List.replicate k 0
  | 0 => rfl
  | k + 1 => by rw [overP, if_pos rfl]
theorem domI_self (a : List Int) : domI a a = false := by unfold domI; rw [domL_irr]; simp
theorem grJ_one {L : List (List Int)} (h : 0 < L.length) : grJ L 1 = L.getD 0 [] := by
  rw [grJ_succ L 0 h]
  have : grJ L 0 = L.getD 0 [] := by show L.headD [] = _; exact head_getD L
  rw [this]
  split <;> rfl

set_option maxRecDepth 10000 in
set_option maxHeartbeats 1500000 in
theorem rover_any : ∀ (k : Nat) (L : List (List Int)) (A : Option Addr) (c : Nat) (w : World), k ≤ 8 → L.length ≤ 1000000 → BRow w A L → (∀ r ∈ L, RowK k r) →
    Calls Tryd.prog 16 #[.slice A L.length c, .int .i64 k] w (OverPost k (overP k L) w) := by
  intro k
  induction k with
  | zero =>
    intro L A c w hk hL hb hr
    clear hb hr
    generalize L.length = n at *
    go_enter Tryd.func16, Tryd.ntmps16
    go_wp2_with fail
    go_ret
    exact ⟨_, rfl, ⟨none, 0, rfl, ⟨Row.nil _ _ _, Nat.le_refl _, by omega, fun _ => rfl⟩, fun b off sp e => by cases e⟩, rfl, Up.refl _⟩
  | succ k ih =>
    intro L A c w hk hL hb hr
    obtain ⟨i1, hi1, hy0, hy1, hy2⟩ := iparts infoInt
    have HI1 := Lib.hid hi1
    have HY0 := Lib.hid hy0
    have HY1 := Lib.hid hy1
    have HY2 := Lib.hid hy2
    obtain ⟨Ki, hK⟩ : ∃ Ki : Int, ((k + 1 : Nat) : Int) = Ki := ⟨_, rfl⟩
    rw [hK]
    have HK := Lib.hid hK
    have hK1 : 1 ≤ Ki := by omega
    have hK8 : Ki ≤ 8 := by omega
    have HKE : Hid (Ki - 1 = (k : Int)) := Lib.hid (by omega)
    have HKW : Hid (IntKind.i64.wrap (Ki - 1) = (k : Int)) := Lib.hid (by rw [IntWalk.i64_in _ (by omega)]; omega)
    have HK8 := Lib.hid hk
    have HBB : Hid ((1 + k) * 8 ≤ 140737488355328) := Lib.hid (by omega)
    by_cases h0 : L = []
    · subst h0
      have HIH := Lib.hid (fun W => ih [] A c W (by omega) (by decide) (BRow.nil W A) (fun r h => by cases h))
      have he : overP (k + 1) [] = 0 :: overP k [] := by rw [overP_nil, overP_nil]; rfl
      have HE := Lib.hid he
      simp only [List.length_nil] at HIH ⊢
      clear hb hr hL ih hi1 hy0 hy1 hy2 hk hK he
      go_enter Tryd.func16, Tryd.ntmps16
      go_wp2_with fail
      rw [HKE.out]
      refine (HIH.out _).mono ?_
      rintro e w3 ⟨v3, rfl, ⟨A3, c3, rfl, hr3, hb3⟩, hl3, hu3⟩
      have HR3 := Lib.hid (rowC_one hr3 hl3)
      have HL3 := Lib.hid hl3
      have HOO := Lib.hid (own_up3 (own_one w 0) hu3)
      have HU3 := Lib.hid (show Up w w3 from ((Up.refl w).alloc _).trans hu3)
      have HSZ3 := Lib.hid HU3.out.size
      rw [hl3]
      clear hr3 hb3 hl3 hu3
      generalize overP k [] = r3 at *
      go_wp2_with (at_builtin; refine wpList_appendRow rfl (.tmp 15) (.tmp 19) 31 rfl w.heap.size 3 i1 (.int .i64 0) 8 Tryd.underlying31 HI1.out HY0.out HY1.out HY2.out rfl _ 1 (icells [0]) rfl HOO.out A3 k c3 (IVal r3) rfl HR3.out.2.1 HR3.out.1 HR3.out.2.2 (by decide) HBB.out HSZ3.out ?_; intro v6 w6 hown6 hg hbl)
      have HF6 := Lib.hid (fresh_cons HL3.out hown6)
      have HU6 := Lib.hid (show Up w w6 from Below.trans HU3.out hbl)
      clear hown6 hg hbl
      go_wp2_with fail
      go_ret
      exact ⟨_, rfl, by rw [HE.out]; exact HF6.out, by rw [HE.out, List.length_cons, HL3.out], HU6.out⟩
    · have hn0 : 0 < L.length := List.length_pos_iff.2 h0
      have hgk := gr_rowK hr hn0
      have HTL : Hid ((gr L (L.headD [])).length = k + 1) := Lib.hid hgk.1
      have HDD : Hid (gr L (L.headD []) = topD L :: (gr L (L.headD [])).tail) := Lib.hid hgk.tail.2.1
      have HOV : Hid (overP (k + 1) L = if (nearL L (topD L)).length < k + 1 then topD L :: overP k (nearL L (topD L)) else nextI (topD L) :: List.replicate k 0) := Lib.hid (by rw [overP, if_neg h0])
      have HIH := Lib.hid (fun W A' c' (hb' : BRow W A' (nearL L (topD L))) => ih (nearL L (topD L)) A' c' W (by omega) (by have := nearL_len L (topD L); omega) hb' (nearL_rowK hr))
      have HIN : Hid (∀ W, Calls Tryd.prog 16 #[.slice none 0 0, .int .i64 k] W (OverPost k (List.replicate k 0) W)) := Lib.hid (fun W => by
        have h := ih [] none 0 W (by omega) (by decide) (BRow.nil W none) (fun r h => by cases h)
        rw [overP_nil] at h
        exact h)
      have HNX := Lib.hid (fun W => rnext_any (topD L) W)
      have HB := Lib.hid hb
      have HR := Lib.hid hr
      have HNL : Hid (∀ j, (nearJ L (topD L) j).length ≤ j) := Lib.hid (nearJ_len L (topD L))
      have HNA := Lib.hid (nearJ_all L (topD L))
      have HGA := Lib.hid (grJ_all L)
      have HGS := Lib.hid (fun j h => grJ_succ L j h)
      have HG1 := Lib.hid (grJ_one hn0)
      have HGK : Hid (∀ j, RowK (k + 1) (grJ L j)) := Lib.hid (fun j => by
        rcases List.mem_cons.1 (gr_mem (L.take j) (L.headD [])) with e | e
        · unfold grJ; rw [e, head_getD]; exact hr _ (getD_mem hn0)
        · exact hr _ (List.mem_of_mem_take e))
      have HL := Lib.hid hL
      obtain ⟨i0, hi, hz0, hz1, hz2⟩ := iparts infoRow
      have HI := Lib.hid hi
      have HZ0 := Lib.hid hz0
      have HZ1 := Lib.hid hz1
      have HZ2 := Lib.hid hz2
      have hlb : ((L.length : Int) == 0) = false := by rw [beq_eq_false_iff_ne]; omega
      have hl0 : (0 : Int) < L.length := by omega
      have hl2 : (L.length : Int) ≤ 1000000 := by omega
      obtain ⟨b, off, A0, c0, rfl, hc0, hr0⟩ := hb 0 hn0
      have hrl0 := (hr _ (getD_mem hn0)).1
      rw [hrl0, Nat.add_zero] at hc0
      have HR0 := Lib.hid hr0
      have HN0 := Lib.hid hn0
      clear hi hz0 hz1 hz2 hi1 hy0 hy1 hy2 hgk hb hr hL ih h0 hn0 hK hr0 hrl0
      go_enter Tryd.func16, Tryd.ntmps16
      go_wp2_with fail
      go_loopw [5, 6] (fun u x wr => ∃ (j : Nat) (A' : Option Addr) (c' : Nat), 1 ≤ j ∧ j ≤ L.length ∧ x = .int .i64 j ∧ u = .slice A' (k + 1) c' ∧ Hid (RowC w A' c' (grJ L j)) ∧ Hid (Up w wr)) (fun _ x _ => L.length - (intOf x).toNat)
      case atStart => exact ⟨1, A0, c0, Nat.le_refl _, HN0.out, rfl, rfl, by rw [HG1.out]; exact HR0, Lib.hid (Up.refl _)⟩
      case round =>
        obtain ⟨j, A', c', hj1, hj, rfl, rfl, HRR, HV⟩ := hrel
        by_cases hlt : j < L.length
        · have hji : (j : Int) < L.length := by omega
          have hj0 : (0 : Int) ≤ j := by omega
          obtain ⟨b1, off1, A1, c1, e1, hc1, hr1⟩ := HB.out j hlt
          injection e1 with e1
          injection e1 with e1 e2
          subst e1 e2
          have hrl := (HR.out _ (getD_mem hlt)).1
          rw [hrl] at hc1
          have HC1 := Lib.hid hc1
          have HR1 := Lib.hid hr1
          have HS := Lib.hid (HGS.out j hlt)
          have HD := Lib.hid (rdom_any (L.getD j []) (grJ L j) A1 A' c1 c' wr hr1.le HRR.out.le hr1.cap HRR.out.cap (hr1.up HV.out).row (HRR.out.up HV.out).row)
          rw [hrl, (HGK.out j).1] at HD
          have hcw := (HV.out.cell (cell_lt hc1)).trans hc1
          clear hc1 hr1 hrl
          cases hdm : domI (L.getD j []) (grJ L j)
          · rw [hdm] at HS HD
            have HS2 : Hid (grJ L (j + 1) = grJ L j) := Lib.hid HS.out
            clear HS hdm
            go_wp2_with fail
            refine HD.out.mono ?_
            rintro e w2 ⟨rfl, hu2⟩
            have HU2 := Lib.hid (HV.out.trans hu2)
            clear hu2
            go_wp2_with fail
            go_roundw
            case rel => exact ⟨j + 1, A', c', by omega, by omega, by go_num, rfl, by rw [HS2.out]; exact HRR, HU2⟩
            case measure => simp [intOf]; omega
          · rw [hdm] at HS HD
            have HS2 : Hid (grJ L (j + 1) = L.getD j []) := Lib.hid HS.out
            clear HS hdm
            go_wp2_with fail
            refine HD.out.mono ?_
            rintro e w2 ⟨rfl, hu2⟩
            have HU2 := Lib.hid (HV.out.trans hu2)
            have hcw2 := (HU2.out.cell (cell_lt HC1.out)).trans HC1.out
            clear hu2 hcw
            go_wp2_with fail
            go_roundw
            case rel => exact ⟨j + 1, A1, c1, by omega, by omega, by go_num, rfl, by rw [HS2.out]; exact HR1, HU2⟩
            case measure => simp [intOf]; omega
        · obtain rfl : j = L.length := by omega
          clear hlt
          rw [HGA.out] at HRR
          obtain ⟨bg, offg, rfl, hcg⟩ := HRR.out.row 0 (by rw [HTL.out]; omega)
          have HCG : Hid (w.cell? ⟨bg, offg, none⟩ = some (.int .i64 (topD L))) := Lib.hid (by
            rw [HDD.out] at hcg
            exact hcg)
          clear hcg HDD HGA HGS HG1 HGK
          generalize topD L = d at *
          go_wp2_with fail
          go_loopw [7, 8] (fun u x wr => ∃ j : Nat, j ≤ L.length ∧ x = .int .i64 j ∧ Hid (OwnS w wr w.heap.size u (nearJ L d j)) ∧ Hid (Up w wr)) (fun _ x _ => L.length - (intOf x).toNat)
          case atStart => exact ⟨0, by omega, rfl, Lib.hid (OwnS.nil _ _ _), HV⟩
          case round =>
            obtain ⟨j, hj, rfl, HO, HV2⟩ := hrel
            by_cases hlt : j < L.length
            · have hji : (j : Int) < L.length := by omega
              have hj0 : (0 : Int) ≤ j := by omega
              obtain ⟨b1, off1, A', c', e1, hc, hrc⟩ := HB.out j hlt
              injection e1 with e1
              injection e1 with e1 e2
              subst e1 e2
              obtain ⟨hrt, hre, hrd⟩ := (HR.out _ (getD_mem hlt)).tail
              have hrl := (HR.out _ (getD_mem hlt)).1
              have HS := Lib.hid (nearJ_succ L d j hlt)
              generalize L.getD j [] = r at *
              obtain ⟨b3, off3, rfl, hc3⟩ := hrc.row 0 (by rw [hrl]; omega)
              have HC3 : Hid (w.cell? ⟨b3, off3, none⟩ = some (.int .i64 (hdR r))) := Lib.hid (by
                rw [hre] at hc3
                exact hc3)
              rw [hrl] at hc
              have HC5 := Lib.hid hc
              have hc4 := (HV2.out.cell (cell_lt HC3.out)).trans HC3.out
              have hc5 := (HV2.out.cell (cell_lt hc)).trans hc
              have hcg := (HV2.out.cell (cell_lt HCG.out)).trans HCG.out
              have hle := hrc.le
              rw [hrl] at hle
              have HRT := Lib.hid (fun A'' hA hA0 => hrc.tail (by rw [hrl]; omega) A'' hA hA0)
              have HRL : Hid (r.tail.length = k) := Lib.hid hrt.1
              clear hrc hrt hre hrd hrl hc hc3
              by_cases hx : hdR r = d
              · have HS2 : Hid (nearJ L d (j + 1) = nearJ L d j ++ [r.tail]) := Lib.hid (by rw [HS.out, beq_iff_eq.2 hx]; rfl)
                rw [hx] at hc4
                clear HS hx
                go_wp2_with fail
                go_quiet (fail)
                have HV3 : Hid (Up w (wr.drewN nq)) := Lib.hid (HV2.out.drewN nq)
                have HO3 : Hid (OwnS w (wr.drewN nq) w.heap.size u7 (nearJ L d j)) := Lib.hid (HO.out.up ((Up.refl wr).drewN nq))
                clear hc4 hc5 hcg
                generalize wr.drewN nq = W at *
                have hc5 := (HV3.out.cell (cell_lt HC5.out)).trans HC5.out
                obtain ⟨xs, ho, hso⟩ := HO3.out
                have HOX := Lib.hid ho
                have HSO := Lib.hid hso
                have HLB : Hid ((nearJ L d j).length + 1 ≤ maxLen ∧ ((nearJ L d j).length + 1) * 24 ≤ 140737488355328) := Lib.hid (by have := HNL.out j; have := HL.out; unfold maxLen; omega)
                have HSZ := Lib.hid HV3.out.size
                clear ho hso
                by_cases hc1 : c' = 1
                · subst hc1
                  go_wp2_with (at_builtin; refine wpList_push (news := [.slice (some ⟨b3, off3, none⟩) 0 0]) rfl (.tmp 56) (.tmp 62) 22 rfl w.heap.size i0 (.slice none 0 0) 1 24 Tryd.underlying22 HI.out HZ0.out HZ1.out HZ2.out rfl (by decide) _ (nearJ L d j).length xs rfl HOX.out rfl rfl (by simp [Value.oneCell']) (by decide) HLB.out.2 HSZ.out ?_; intro v' w6 hown6 hg hbl)
                  have HO6 : Hid (OwnS w w6 w.heap.size v' (nearJ L d (j + 1))) := Lib.hid (by
                    rw [HS2.out]
                    refine ⟨xs ++ [.slice (some ⟨b3, off3, none⟩) 0 0], by rw [List.length_append]; exact hown6, ?_⟩
                    have h := HSO.out.push (HRT.out (some ⟨b3, off3, none⟩) (fun h => absurd h (by decide)) (fun _ h => by cases h))
                    rw [HRL.out, show k = 0 by omega] at h
                    exact h)
                  have HU6 := Lib.hid (show Up w w6 from Below.trans HV3.out hbl)
                  clear hown6 hg hbl
                  go_wp2_with fail
                  go_roundw
                  case rel => exact ⟨j + 1, by omega, by go_num, HO6, HU6⟩
                  case measure => simp [intOf]; omega
                · go_wp2_with (at_builtin; refine wpList_push (news := [.slice (some ⟨b3, off3 + 1, none⟩) k (c' - 1)]) rfl (.tmp 56) (.tmp 62) 22 rfl w.heap.size i0 (.slice none 0 0) 1 24 Tryd.underlying22 HI.out HZ0.out HZ1.out HZ2.out rfl (by decide) _ (nearJ L d j).length xs rfl HOX.out rfl rfl (by simp [Value.oneCell']) (by decide) HLB.out.2 HSZ.out ?_; intro v' w6 hown6 hg hbl)
                  have HO6 : Hid (OwnS w w6 w.heap.size v' (nearJ L d (j + 1))) := Lib.hid (by
                    rw [HS2.out]
                    refine ⟨xs ++ [.slice (some ⟨b3, off3 + 1, none⟩) k (c' - 1)], by rw [List.length_append]; exact hown6, ?_⟩
                    have h := HSO.out.push (HRT.out (some ⟨b3, off3 + 1, none⟩) (fun _ => rfl) (fun h => absurd h hc1))
                    rw [HRL.out] at h
                    exact h)
                  have HU6 := Lib.hid (show Up w w6 from Below.trans HV3.out hbl)
                  clear hown6 hg hbl
                  go_wp2_with fail
                  go_roundw
                  case rel => exact ⟨j + 1, by omega, by go_num, HO6, HU6⟩
                  case measure => simp [intOf]; omega
              · have HS2 : Hid (nearJ L d (j + 1) = nearJ L d j) := Lib.hid (by rw [HS.out, beq_eq_false_iff_ne.2 hx]; rfl)
                have hxb : (hdR r == d) = false := beq_eq_false_iff_ne.2 hx
                clear HS hx
                generalize hdR r = x at *
                go_wp2_with fail
                go_quiet (fail)
                have HV3 : Hid (Up w (wr.drewN nq)) := Lib.hid (HV2.out.drewN nq)
                have HO3 : Hid (OwnS w (wr.drewN nq) w.heap.size u7 (nearJ L d j)) := Lib.hid (HO.out.up ((Up.refl wr).drewN nq))
                clear hc4 hc5 hcg
                generalize wr.drewN nq = W at *
                go_wp2_with fail
                go_roundw
                case rel => exact ⟨j + 1, by omega, by go_num, by rw [HS2.out]; exact HO3, HV3⟩
                case measure => simp [intOf]; omega
            · obtain rfl : j = L.length := by omega
              clear hlt
              rw [HNA.out] at HO
              have hnl := nearL_len L d
              obtain ⟨A5, c5, hu5, hb5, hl5⟩ := HO.out.brow HV2.out
              subst hu5
              have HB5 := Lib.hid hb5
              have hmi : ((nearL L d).length : Int) ≤ 1000000 := by omega
              have hcg := (HV2.out.cell (cell_lt HCG.out)).trans HCG.out
              clear hnl
              by_cases hlk : (nearL L d).length < k + 1
              · have hlki : ((nearL L d).length : Int) < Ki := by have := HK.out; omega
                have HE : Hid (overP (k + 1) L = d :: overP k (nearL L d)) := Lib.hid (by rw [HOV.out, if_pos hlk])
                clear hb5 hl5 hlk HOV
                generalize (nearL L d).length = m at *
                go_wp2_with fail
                have HVD : Hid (Up w wr.drew) := Lib.hid HV2.out.drew
                have hSD : wr.drew.cell? ⟨bg, offg, none⟩ = some (.int .i64 d) := hcg
                have HB6 : Hid (BRow wr.drew A5 (nearL L d)) := Lib.hid (HB5.out.up (Up.refl wr).drew)
                refine wp_region_held_drew (S := fun w' => w'.cell? ⟨bg, offg, none⟩ = some (.int .i64 d)) (by kernel_rfl) hSD (fun hS0 => ?_)
                clear hSD hcg
                generalize wr.drew = W at *
                refine wpAnyH_take (i := 0) (v := ?_) rfl (by kernel_rfl) (by kernel_rfl) (by kernel_rfl) (fun _ _ _ h => h) (Or.inl ⟨by kernel_rfl, ?_⟩) hS0 ?_
                rotate_left
                · intro w hSw
                  try dsimp only at hSw
                  go_simp
                  try (with_reducible rfl)
                try simp only [Act.put, List.setIfInBounds_toArray, List.set_cons_zero, List.set_cons_succ]
                refine wpAnyH_take (i := 1) (v := ?_) rfl (by kernel_rfl) (by kernel_rfl) (by kernel_rfl) (fun _ _ _ h => h) (Or.inl ⟨by kernel_rfl, ?_⟩) hS0 ?_
                rotate_left
                · intro w hSw
                  try dsimp only at hSw
                  go_simp
                  try (with_reducible rfl)
                try simp only [Act.put, List.setIfInBounds_toArray, List.set_cons_zero, List.set_cons_succ]
                refine wpAnyH_take (i := 2) (v := ?_) rfl (by kernel_rfl) (by kernel_rfl) (by kernel_rfl) (fun _ _ _ h => h) (Or.inl ⟨by kernel_rfl, ?_⟩) hS0 ?_
                rotate_left
                · intro w hSw
                  try dsimp only at hSw
                  go_simp
                  try (with_reducible rfl)
                try simp only [Act.put, List.setIfInBounds_toArray, List.set_cons_zero, List.set_cons_succ]
                refine wpAnyH_take (i := 4) (v := ?_) rfl (by kernel_rfl) (by kernel_rfl) (by kernel_rfl) (fun _ _ _ h => h) (Or.inl ⟨by kernel_rfl, ?_⟩) hS0 ?_
                rotate_left
                · intro w hSw
                  try dsimp only at hSw
                  go_simp
                  try (with_reducible rfl)
                try simp only [Act.put, List.setIfInBounds_toArray, List.set_cons_zero, List.set_cons_succ]
                refine wpAnyH_take (i := 5) (v := ?_) rfl (by kernel_rfl) (by kernel_rfl) (by kernel_rfl) (fun _ _ _ h => h) (Or.inl ⟨by kernel_rfl, ?_⟩) hS0 ?_
                rotate_left
                · intro w hSw
                  try dsimp only at hSw
                  go_simp
                  try (with_reducible rfl)
                try simp only [Act.put, List.setIfInBounds_toArray, List.set_cons_zero, List.set_cons_succ]
                refine wpAnyH_take (i := 6) (v := ?_) rfl (by kernel_rfl) (by kernel_rfl) (by kernel_rfl) (fun _ _ _ h => h) (Or.inl ⟨by kernel_rfl, ?_⟩) hS0 ?_
                rotate_left
                · intro w hSw
                  try dsimp only at hSw
                  go_simp
                  try (with_reducible rfl)
                try simp only [Act.put, List.setIfInBounds_toArray, List.set_cons_zero, List.set_cons_succ]
                rw [HKW.out]
                refine wpAnyH_ready (rs := [3, 7]) (by kernel_rfl) (by simp) ?_
                refine AllReadyH.cons rfl (fun K hK => ?_) (AllReadyH.cons rfl (fun K hK => ?_) AllReadyH.nil)
                · go_simp
                  have hS6 : (W.alloc (.cells #[.int .i64 d] 3)).cell? ⟨bg, offg, none⟩ = some (.int .i64 d) := ((Up.refl W).alloc _ |>.cell (cell_lt hS0)).trans hS0
                  refine hK.out _ _ hS6 (fun hS1 => ?_)
                  clear hK K
                  try simp only [Act.put, List.setIfInBounds_toArray, List.set_cons_zero, List.set_cons_succ]
                  clear hS6
                  refine wpAnyH_ready (rs := [7]) (by kernel_rfl) (by simp) ?_
                  refine AllReadyH.cons rfl (fun K hK => ?_) AllReadyH.nil
                  go_simp
                  refine (HIH.out _ A5 c5 (HB6.out.up ((Up.refl W).alloc _))).mono ?_
                  rintro e w3 ⟨v3, rfl, ⟨A3, c3, rfl, hr3, hb3⟩, hl3, hu3⟩
                  have HR3 := Lib.hid (rowC_one hr3 hl3)
                  have HL3 := Lib.hid hl3
                  have HOO := Lib.hid (own_less (own_up3 (own_one W d) hu3) HVD.out.size)
                  have HU3 := Lib.hid (show Up w w3 from (HVD.out.alloc _).trans hu3)
                  have HSZ3 := Lib.hid HU3.out.size
                  have hS6 := (HU3.out.cell (cell_lt HCG.out)).trans HCG.out
                  rw [hl3]
                  clear hr3 hb3 hl3 hu3
                  generalize overP k (nearL L d) = r3 at *
                  refine hK.out _ _ hS6 (fun hS2 => ?_)
                  clear hK K
                  try simp only [Act.put, List.setIfInBounds_toArray, List.set_cons_zero, List.set_cons_succ]
                  clear hS6
                  refine wpAnyH_ready (rs := [8]) (by kernel_rfl) (by simp) ?_
                  refine AllReadyH.cons rfl (fun K hK => ?_) AllReadyH.nil
                  refine step_appendRow rfl (.tmp 71) (.tmp 75) 31 rfl w.heap.size 3 i1 (.int .i64 0) 8 Tryd.underlying31 HI1.out HY0.out HY1.out HY2.out rfl _ 1 (icells [d]) rfl HOO.out A3 k c3 (IVal r3) rfl HR3.out.2.1 HR3.out.1 HR3.out.2.2 (by decide) HBB.out HSZ3.out ?_
                  intro v6 w6 hown6 hg hbl
                  have HF6 := Lib.hid (fresh_cons HL3.out hown6)
                  have HU6 := Lib.hid (show Up w w6 from Below.trans HU3.out hbl)
                  have hS6 := (HU6.out.cell (cell_lt HCG.out)).trans HCG.out
                  clear hown6 hg hbl
                  refine hK.out _ _ hS6 (fun hS3 => ?_)
                  clear hK K
                  try simp only [Act.put, List.setIfInBounds_toArray, List.set_cons_zero, List.set_cons_succ]
                  refine wpAnyH_take (i := 9) (v := ?_) rfl (by kernel_rfl) (by kernel_rfl) (by kernel_rfl) (fun _ _ _ h => h) (Or.inl ⟨by kernel_rfl, ?_⟩) hS3 ?_
                  rotate_left
                  · intro w hSw
                    try dsimp only at hSw
                    go_simp
                    try (with_reducible rfl)
                  try simp only [Act.put, List.setIfInBounds_toArray, List.set_cons_zero, List.set_cons_succ]
                  refine wpAnyH_done (by kernel_rfl) ?_ _
                  try simp only [Act.put, List.setIfInBounds_toArray, List.set_cons_zero, List.set_cons_succ, List.getElem_toArray, List.getElem_cons_succ, List.getElem_cons_zero]
                  clear hS0 hS1 hS2 hS3
                  go_wp2_with fail
                  go_ret
                  exact ⟨_, rfl, by rw [HE.out]; exact HF6.out, by rw [HE.out, List.length_cons, HL3.out], HU6.out⟩
                · go_simp
                  refine (HIH.out _ A5 c5 HB6.out).mono ?_
                  rintro e w3 ⟨v3, rfl, ⟨A3, c3, rfl, hr3, hb3⟩, hl3, hu3⟩
                  have HU3 := Lib.hid (show Up w (w3.alloc (.cells #[.int .i64 d] 3)) from (HVD.out.trans hu3).alloc _)
                  have HR3 := Lib.hid (rowC_one (hr3.up ((Up.refl w3).alloc (.cells #[.int .i64 d] 3))) hl3)
                  have HL3 := Lib.hid hl3
                  have HOO := Lib.hid (own_less (own_one w3 d) (HVD.out.trans hu3).size)
                  have HSZ3 := Lib.hid HU3.out.size
                  have hS6 := ((HVD.out.trans hu3).cell (cell_lt HCG.out)).trans HCG.out
                  rw [hl3]
                  clear hr3 hb3 hl3 hu3
                  generalize overP k (nearL L d) = r3 at *
                  refine hK.out _ _ hS6 (fun hS1 => ?_)
                  clear hK K
                  try simp only [Act.put, List.setIfInBounds_toArray, List.set_cons_zero, List.set_cons_succ]
                  clear hS6
                  refine wpAnyH_ready (rs := [3]) (by kernel_rfl) (by simp) ?_
                  refine AllReadyH.cons rfl (fun K hK => ?_) AllReadyH.nil
                  go_simp
                  have hS6 := (HU3.out.cell (cell_lt HCG.out)).trans HCG.out
                  refine hK.out _ _ hS6 (fun hS2 => ?_)
                  clear hK K
                  try simp only [Act.put, List.setIfInBounds_toArray, List.set_cons_zero, List.set_cons_succ]
                  clear hS6
                  refine wpAnyH_ready (rs := [8]) (by kernel_rfl) (by simp) ?_
                  refine AllReadyH.cons rfl (fun K hK => ?_) AllReadyH.nil
                  refine step_appendRow rfl (.tmp 71) (.tmp 75) 31 rfl w.heap.size 3 i1 (.int .i64 0) 8 Tryd.underlying31 HI1.out HY0.out HY1.out HY2.out rfl _ 1 (icells [d]) rfl HOO.out A3 k c3 (IVal r3) rfl HR3.out.2.1 HR3.out.1 HR3.out.2.2 (by decide) HBB.out HSZ3.out ?_
                  intro v6 w6 hown6 hg hbl
                  have HF6 := Lib.hid (fresh_cons HL3.out hown6)
                  have HU6 := Lib.hid (show Up w w6 from Below.trans HU3.out hbl)
                  have hS6 := (HU6.out.cell (cell_lt HCG.out)).trans HCG.out
                  clear hown6 hg hbl
                  refine hK.out _ _ hS6 (fun hS3 => ?_)
                  clear hK K
                  try simp only [Act.put, List.setIfInBounds_toArray, List.set_cons_zero, List.set_cons_succ]
                  refine wpAnyH_take (i := 9) (v := ?_) rfl (by kernel_rfl) (by kernel_rfl) (by kernel_rfl) (fun _ _ _ h => h) (Or.inl ⟨by kernel_rfl, ?_⟩) hS3 ?_
                  rotate_left
                  · intro w hSw
                    try dsimp only at hSw
                    go_simp
                    try (with_reducible rfl)
                  try simp only [Act.put, List.setIfInBounds_toArray, List.set_cons_zero, List.set_cons_succ]
                  refine wpAnyH_done (by kernel_rfl) ?_ _
                  try simp only [Act.put, List.setIfInBounds_toArray, List.set_cons_zero, List.set_cons_succ, List.getElem_toArray, List.getElem_cons_succ, List.getElem_cons_zero]
                  clear hS0 hS1 hS2 hS3
                  go_wp2_with fail
                  go_ret
                  exact ⟨_, rfl, by rw [HE.out]; exact HF6.out, by rw [HE.out, List.length_cons, HL3.out], HU6.out⟩
              · have hlki : Ki ≤ ((nearL L d).length : Int) := by have := HK.out; omega
                have HE : Hid (overP (k + 1) L = nextI d :: List.replicate k 0) := Lib.hid (by rw [HOV.out, if_neg hlk])
                clear hb5 hl5 hlk HOV HIH
                generalize (nearL L d).length = m at *
                go_wp2_with fail
                refine (HNX.out wr).mono ?_
                rintro e w3 ⟨rfl, rfl⟩
                go_wp2_with fail
                rw [HKE.out]
                refine (HIN.out _).mono ?_
                rintro e w3 ⟨v3, rfl, ⟨A3, c3, rfl, hr3, hb3⟩, hl3, hu3⟩
                have HR3 := Lib.hid (rowC_one hr3 (List.length_replicate ..))
                have HOO := Lib.hid (own_less (own_up3 (own_one wr (nextI d)) hu3) HV2.out.size)
                have HU3 := Lib.hid (show Up w w3 from (HV2.out.alloc _).trans hu3)
                have HSZ3 := Lib.hid HU3.out.size
                rw [hl3]
                clear hr3 hb3 hl3 hu3
                go_wp2_with (at_builtin; refine wpList_appendRow rfl (.tmp 81) (.tmp 85) 31 rfl w.heap.size 3 i1 (.int .i64 0) 8 Tryd.underlying31 HI1.out HY0.out HY1.out HY2.out rfl _ 1 (icells [nextI d]) rfl HOO.out A3 k c3 (IVal (List.replicate k 0)) rfl HR3.out.2.1 HR3.out.1 HR3.out.2.2 (by decide) HBB.out HSZ3.out ?_; intro v6 w6 hown6 hg hbl)
                have HF6 := Lib.hid (fresh_cons (List.length_replicate ..) hown6)
                have HU6 := Lib.hid (show Up w w6 from Below.trans HU3.out hbl)
                clear hown6 hg hbl
                go_wp2_with fail
                go_ret
                exact ⟨_, rfl, by rw [HE.out]; exact HF6.out, by rw [HE.out, List.length_cons, List.length_replicate], HU6.out⟩

end Go.Proofs.YtlclijnoablejaaDoor
