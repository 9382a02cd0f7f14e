/-
  The closures of UnaryBack.
-/
import Derived.Test.YtpandnodeldbjaaUnaryB
import Derived.Test.YtpandnodeldbjaaUnaryR
import Derived.Test.YtpandnodeldbjaaBackP
import Derived.Test.YtpandnodeldbjaaPlayL
import Derived.Deep.RegionHeld3
set_option linter.unusedVariables false
set_option linter.unusedSimpArgs false
namespace Go.Proofs.Ytpandnodeldbjaa
open Go.RowKit

set_option maxRecDepth 10000 in
theorem cb2 (b lo : Int) (k n wr rd tp : Int) (W : World) (g B q : Nat) (s : TS) (hb : W.heap[q]? = some (.cells (regC k b lo n wr rd tp) 50 (0, 0))) (h : Tape1 W g B s) (hb0 : -1099511627776 ≤ b) (hb1 : b ≤ 1099511627776) (hl0 : -1099511627776 ≤ lo) (hl1 : lo ≤ 1099511627776) :
    Calls Try.prog 44 #[.pointer (some ⟨g, 0, none⟩), .pointer (some ⟨q, 0, none⟩)] W (TPost encI g B W ((unR b tp).onT s)) := by
  obtain ⟨R, hR⟩ : ∃ R, (unR b tp).onT s = R := ⟨_, rfl⟩
  have HC := Lib.hid (unaryR_any k b lo n wr rd tp g B s W h hb0 hb1 hl0 hl1)
  rw [hR]
  rw [hR] at HC
  unfold regV at HC
  obtain ⟨a0, a1, a2, a3, a4, a5, a6⟩ := reg_load hb
  clear hR h hb hb0 hb1 hl0 hl1
  go_enter Try.func44, Try.ntmps44
  go_wp2_with fail
  refine HC.out.mono ?_
  intro e w1 q
  rcases q.two with ⟨v, s1, hr, he, h1, k1⟩ | ⟨s1, hr, he, h1, k1⟩
  · have he2 : e = .returned (.int .i64 v) := he
    subst he2
    have H1 := Lib.hid (show TPost encI g B W R (.returned (.int .i64 v)) w1 from q)
    clear he q h1 k1 a0 a1 a2 a3 a4 a5 a6 HC hr
    go_wp2_with fail
    go_ret
    exact H1.out
  · subst he
    have H1 := Lib.hid q
    clear q h1 k1 a0 a1 a2 a3 a4 a5 a6 HC hr
    go_wp2_with fail
    exact ⟨rfl, H1.out⟩

set_option maxRecDepth 10000 in
set_option maxHeartbeats 1000000 in
theorem cb1 (k0 b lo n0 wt rd tp : Int) (n c k : Nat) (x : Int) (ba off : Nat) (W : World) (g B q p r : Nat) (s : TS) (hb : W.heap[q]? = some (.cells (regC k0 b lo n0 wt rd tp) 50 (0, 0)))
    (hp : W.heap[p]? = some (.cells #[.slice (some ⟨ba, off, none⟩) n c] 23 (0, 0))) (hr : W.heap[r]? = some (.cells #[.int .i64 k] 3 (0, 0))) (hx : W.cell? ⟨ba, off + k, none⟩ = some (.int .i64 x)) (hkn : k < n) (hn : n ≤ 100) (hlow : p < g ∧ q < g ∧ r < g ∧ ba < g)
    (h : Tape1 W g B s) (hb0 : -1099511627776 ≤ b) (hb1 : b ≤ 1099511627776) (hl0 : -1099511627776 ≤ lo) (hl1 : lo ≤ 1099511627776) :
    Calls Try.prog 43 #[.pointer (some ⟨g, 0, none⟩), .pointer (some ⟨q, 0, none⟩), .pointer (some ⟨p, 0, none⟩), .pointer (some ⟨r, 0, none⟩)] W (TPost encI g B W (((unW b lo tp x).bind fun _ => Op.ret (0 : Int)).onT s)) := by
  obtain ⟨R, hR⟩ : ∃ R, ((unW b lo tp x).bind fun _ => Op.ret (0 : Int)).onT s = R := ⟨_, rfl⟩
  have HC := Lib.hid (call_step (unaryW_any k0 b lo n0 wt rd tp x g B s W.drew (h.up (Up.refl W).drew) hb0 hb1 hl0 hl1) hR)
  have HKD := Lib.hid (TK.ofUp (g := g) (B := B) (Up.refl W).drew)
  rw [hR]
  unfold regV at HC
  obtain ⟨a0, a1, a2, a3, a4, a5, a6⟩ := reg_load hb
  have a7 := cell_of_row _ _ 0 _ _ _ hp
  have a8 := cell_of_row _ _ 0 _ _ _ hr
  simp only [List.getElem?_toArray, List.getElem?_cons_zero] at a7 a8
  have S0 : W.cell? ⟨p, 0, none⟩ = some (.slice (some ⟨ba, off, none⟩) n c) ∧ W.cell? ⟨r, 0, none⟩ = some (.int .i64 k) ∧ W.cell? ⟨ba, off + k, none⟩ = some (.int .i64 x) ∧ W.cell? ⟨q, 0, none⟩ = some (.int .i64 k0) ∧ W.cell? ⟨q, 1, none⟩ = some (.int .i64 b) ∧ W.cell? ⟨q, 2, none⟩ = some (.int .i64 lo) ∧ W.cell? ⟨q, 3, none⟩ = some (.int .i64 n0) ∧ W.cell? ⟨q, 4, none⟩ = some (.int .i64 wt) ∧ W.cell? ⟨q, 5, none⟩ = some (.int .i64 rd) ∧ W.cell? ⟨q, 6, none⟩ = some (.int .i64 tp) := ⟨a7, a8, hx, a0, a1, a2, a3, a4, a5, a6⟩
  have HSB := Lib.hid (fun (w' : World) (k' : TK g B W w') => show w'.cell? ⟨p, 0, none⟩ = some (.slice (some ⟨ba, off, none⟩) n c) ∧ w'.cell? ⟨r, 0, none⟩ = some (.int .i64 k) ∧ w'.cell? ⟨ba, off + k, none⟩ = some (.int .i64 x) ∧ w'.cell? ⟨q, 0, none⟩ = some (.int .i64 k0) ∧ w'.cell? ⟨q, 1, none⟩ = some (.int .i64 b) ∧ w'.cell? ⟨q, 2, none⟩ = some (.int .i64 lo) ∧ w'.cell? ⟨q, 3, none⟩ = some (.int .i64 n0) ∧ w'.cell? ⟨q, 4, none⟩ = some (.int .i64 wt) ∧ w'.cell? ⟨q, 5, none⟩ = some (.int .i64 rd) ∧ w'.cell? ⟨q, 6, none⟩ = some (.int .i64 tp) from
    have hB := h.1.gB
    have fb := reg_load ((k'.block q (Array.getElem?_eq_some_iff.1 hb).1 (by omega) (Far.low (by omega))).trans hb)
    ⟨cell_of_row w' p 0 _ _ _ ((k'.block p (Array.getElem?_eq_some_iff.1 hp).1 (by omega) (Far.low (by omega))).trans hp), cell_of_row w' r 0 _ _ _ ((k'.block r (Array.getElem?_eq_some_iff.1 hr).1 (by omega) (Far.low (by omega))).trans hr),
      (tcell (k'.block ba (cell_lt hx) (by omega) (Far.low (by omega)))).trans hx, fb⟩)
  have hki : (k : Int) < n := by omega
  have hk0 : (0 : Int) ≤ (k : Int) := by omega
  clear hR h hb hb0 hb1 hl0 hl1 hp hr a0 a1 a2 a3 a4 a5 a6 a7 a8 hx
  go_enter Try.func43, Try.ntmps43
  go_wp2_with fail
  refine wp_region_held_drew (S := fun w' => w'.cell? ⟨p, 0, none⟩ = some (.slice (some ⟨ba, off, none⟩) n c) ∧ w'.cell? ⟨r, 0, none⟩ = some (.int .i64 k) ∧ w'.cell? ⟨ba, off + k, none⟩ = some (.int .i64 x) ∧ w'.cell? ⟨q, 0, none⟩ = some (.int .i64 k0) ∧ w'.cell? ⟨q, 1, none⟩ = some (.int .i64 b) ∧ w'.cell? ⟨q, 2, none⟩ = some (.int .i64 lo) ∧ w'.cell? ⟨q, 3, none⟩ = some (.int .i64 n0) ∧ w'.cell? ⟨q, 4, none⟩ = some (.int .i64 wt) ∧ w'.cell? ⟨q, 5, none⟩ = some (.int .i64 rd) ∧ w'.cell? ⟨q, 6, none⟩ = some (.int .i64 tp)) (by kernel_rfl) S0 (fun hH0 => ?_)
  refine wpAnyH_take (i := 0) (v := ?_) rfl (by kernel_rfl) (by kernel_rfl) (by kernel_rfl) (fun _ _ _ h => h) (Or.inl ⟨by kernel_rfl, ?_⟩) hH0 ?_
  rotate_left
  · intro w hSw
    try dsimp only at hSw
    go_simp
    try (with_reducible rfl)
  try simp only [Act.put, List.setIfInBounds_toArray, List.set_cons_zero, List.set_cons_succ]
  refine wpAnyH_take (i := 1) (v := ?_) rfl (by kernel_rfl) (by kernel_rfl) (by kernel_rfl) (fun _ _ _ h => h) (Or.inl ⟨by kernel_rfl, ?_⟩) hH0 ?_
  rotate_left
  · intro w hSw
    try dsimp only at hSw
    go_simp
    try (with_reducible rfl)
  try simp only [Act.put, List.setIfInBounds_toArray, List.set_cons_zero, List.set_cons_succ]
  refine wpAnyH_take (i := 2) (v := ?_) rfl (by kernel_rfl) (by kernel_rfl) (by kernel_rfl) (fun _ _ _ h => h) (Or.inl ⟨by kernel_rfl, ?_⟩) hH0 ?_
  rotate_left
  · intro w hSw
    try dsimp only at hSw
    go_simp
    try (with_reducible rfl)
  try simp only [Act.put, List.setIfInBounds_toArray, List.set_cons_zero, List.set_cons_succ]
  refine wpAnyH_take (i := 3) (v := ?_) rfl (by kernel_rfl) (by kernel_rfl) (by kernel_rfl) (fun _ _ _ h => h) (Or.inl ⟨by kernel_rfl, ?_⟩) hH0 ?_
  rotate_left
  · intro w hSw
    try dsimp only at hSw
    go_simp
    try (with_reducible rfl)
  try simp only [Act.put, List.setIfInBounds_toArray, List.set_cons_zero, List.set_cons_succ]
  refine wpAnyH_take (i := 4) (v := ?_) rfl (by kernel_rfl) (by kernel_rfl) (by kernel_rfl) (fun _ _ _ h => h) (Or.inl ⟨by kernel_rfl, ?_⟩) hH0 ?_
  rotate_left
  · intro w hSw
    try dsimp only at hSw
    go_simp
    try (with_reducible rfl)
  try simp only [Act.put, List.setIfInBounds_toArray, List.set_cons_zero, List.set_cons_succ]
  refine wpAnyH_take (i := 5) (v := ?_) rfl (by kernel_rfl) (by kernel_rfl) (by kernel_rfl) (fun _ _ _ h => h) (Or.inl ⟨by kernel_rfl, ?_⟩) hH0 ?_
  rotate_left
  · intro w hSw
    try dsimp only at hSw
    go_simp
    try (with_reducible rfl)
  try simp only [Act.put, List.setIfInBounds_toArray, List.set_cons_zero, List.set_cons_succ]
  refine wpAnyH_ready (rs := [6]) (by kernel_rfl) (by simp) ?_
  refine AllReadyH.cons rfl (fun K hK => ?_) AllReadyH.nil
  go_simp
  refine HC.out.mono ?_
  rintro e w1 (⟨s1, rfl, H1, K1, E1⟩ | ⟨_, s1, rfl, H1, K1, E1⟩)
  · dsimp only
    clear hK K
    go_wp2_with fail
    exact ⟨rfl, TPost.none E1.out ⟨rfl, H1.out, HKD.out.trans K1.out⟩⟩
  · have HK2 := Lib.hid (HKD.out.trans K1.out)
    have hS4 := HSB.out w1 HK2.out
    clear HSB HC hH0
    unfold encU
    refine hK.out _ _ hS4 (fun hH1 => ?_)
    clear hK K
    try simp only [Act.put, List.setIfInBounds_toArray, List.set_cons_zero, List.set_cons_succ]
    refine wpAnyH_done (by kernel_rfl) ?_ _
    try simp only [Act.put, List.setIfInBounds_toArray, List.set_cons_zero, List.set_cons_succ, List.getElem_toArray, List.getElem_cons_succ, List.getElem_cons_zero]
    go_wp2_with fail
    go_ret
    exact TPost.some E1.out.symm ⟨rfl, H1.out, HK2.out⟩

/-- The two plays of a round. -/
theorem play_back1 (top n c k : Nat) (x : Int) (ba off : Nat) (loc : List Int) (L A1 : Option Addr) (cL c1 q p r : Nat) (s' : TS) (w : World) (he : ((unW 0 0 top x).bind fun _ => Op.ret (0 : Int)).onT ⟨List.replicate 256 0, loc, [], []⟩ = (some 0, s'))
    (hb : w.heap[q]? = some (.cells (regC 3 0 0 0 0 0 top) 50 (0, 0))) (hp : w.heap[p]? = some (.cells #[.slice (some ⟨ba, off, none⟩) n c] 23 (0, 0))) (hr : w.heap[r]? = some (.cells #[.int .i64 k] 3 (0, 0))) (hx : w.cell? ⟨ba, off + k, none⟩ = some (.int .i64 x)) (hkn : k < n) (hn : n ≤ 100)
    (hA0 : L = none → cL = 0) (hl0 : loc.length ≤ 256) (hr0 : Row w L loc.length (IVal loc)) (hr1 : Row w A1 256 (IVal (List.replicate 256 0))) (hc0 : loc.length ≤ cL) :
    Calls Try.prog 15 #[.func (.func 43) #[] #[.pointer (some ⟨q, 0, none⟩), .pointer (some ⟨p, 0, none⟩), .pointer (some ⟨r, 0, none⟩)], .slice L loc.length cL, .slice A1 256 c1] w fun e w' =>
      ∃ ov, e = .returned (.tuple #[.int .i64 0, ov]) ∧ OutL w.heap.size w' ov true s' ∧ Up w w' := by
  have hz : (List.replicate 256 (0 : Int)).length = 256 := List.length_replicate
  have h0 := playL 43 #[.pointer (some ⟨q, 0, none⟩), .pointer (some ⟨p, 0, none⟩), .pointer (some ⟨r, 0, none⟩)] (fun s => ((unW 0 0 top x).bind fun _ => Op.ret 0).onT s) loc (List.replicate 256 0) L A1 cL c1 w hA0 (by omega) (by rw [hz]; decide) hr0 (by rw [hz]; exact hr1) hc0 (fun args W => enters Try.func43 (by kernel_rfl) rfl args W)
    (fun W g B hU hg h => cb1 3 0 0 0 0 0 top n c k x ba off W g B q p r _ ((hU.block _ (Array.getElem?_eq_some_iff.1 hb).1).trans hb) ((hU.block _ (Array.getElem?_eq_some_iff.1 hp).1).trans hp) ((hU.block _ (Array.getElem?_eq_some_iff.1 hr).1).trans hr) ((hU.cell (p := ⟨ba, off + k, none⟩) (cell_lt hx)).trans hx) hkn hn
      ⟨by have := (Array.getElem?_eq_some_iff.1 hp).1; omega, by have := (Array.getElem?_eq_some_iff.1 hb).1; omega, by have := (Array.getElem?_eq_some_iff.1 hr).1; omega, by have := cell_lt hx; omega⟩ h (by decide) (by decide) (by decide) (by decide))
  simp only [he, hz] at h0
  exact h0
theorem play_back2 (top : Nat) (cells : List Int) (A1 : Option Addr) (c1 q : Nat) (v : Int) (s' : TS) (w : World) (he : (unR 0 top).onT ⟨cells, [], [], []⟩ = (some v, s')) (hc : cells.length = 256)
    (hb : w.heap[q]? = some (.cells (regC 3 0 0 0 0 0 top) 50 (0, 0))) (hr1 : Row w A1 256 (IVal cells)) :
    Calls Try.prog 15 #[.func (.func 44) #[] #[.pointer (some ⟨q, 0, none⟩)], .slice none 0 0, .slice A1 256 c1] w fun e w' =>
      ∃ ov, e = .returned (.tuple #[.int .i64 v, ov]) ∧ OutIs w' ov true s' ∧ Up w w' := by
  have h0 := playI 44 #[.pointer (some ⟨q, 0, none⟩)] (fun s => (unR 0 top).onT s) [] cells none A1 0 c1 w (fun _ => rfl) (by decide) (by omega) (Row.nil _ _ _) (by rw [hc]; exact hr1) (by decide) (fun args W => enters Try.func44 (by kernel_rfl) rfl args W)
    (fun W g B hU hg h => cb2 0 0 3 0 0 0 top W g B q _ ((hU.block _ (Array.getElem?_eq_some_iff.1 hb).1).trans hb) h (by decide) (by decide) (by decide) (by decide))
  simp only [he, hc] at h0
  exact h0

end Go.Proofs.Ytpandnodeldbjaa
