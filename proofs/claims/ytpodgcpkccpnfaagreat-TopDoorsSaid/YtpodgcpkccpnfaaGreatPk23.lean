/-
  Parts of a proof, packed: LibF, LibG, ScrC, WldL, NewA
-/
import Derived.Test.YtpodgcpkccpnfaaGreatPk01
import Derived.Test.YtpodgcpkccpnfaaGreatPk17
import Derived.Test.YtpodgcpkccpnfaaGreatPk18
import Derived.Test.YtpodgcpkccpnfaaGreatPk22
set_option linter.unusedVariables false
set_option linter.unusedSimpArgs false
set_option maxRecDepth 20000
set_option maxHeartbeats 16000000
namespace Go.Proofs.YtpodgcpkccpnfaaGreat
open Go.RowKit
theorem infoOb : (Tryz.prog.info? 132).map (fun i => (i.zero, i.size, i.bytes)) = some (some (.agg #[.int .i64 0, .int .i64 0, .int .i64 0, .int .i64 0, .int .i64 0, .int .i64 0, .int .i64 0, .int .i64 0, .int .i64 0, .int .i64 0, .int .i64 0, .int .i64 0, .int .i64 0, .int .i64 0, .int .i64 0, .int .i64 0, .int .i64 0, .int .i64 0, .int .i64 0, .int .i64 0, .int .i64 0, .int .i64 0, .int .i64 0]), 23, 184) := by kernel_rfl
structure Laid1 (w wr : World) (ov : Value) (ob : List Value) : Prop where
 up : Up w wr
 row : wr.ownsRow w.heap.size 132 23 ov 1 ob
theorem layAll_one (alg n base loc room z4 z5 z6 z7 bs lc sz : Int) (l : List SD) (b off tc : Nat) (w : World) (hn : 1 ≤ n ∧ n ≤ 8)
 (c0 : w.cell? ⟨b, off, none⟩ = some (.int .i64 1)) (c1 : w.cell? ⟨b, off + 1, none⟩ = some (.int .i64 alg)) (c2 : w.cell? ⟨b, off + 2, none⟩ = some (.int .i64 1)) (c3 : w.cell? ⟨b, off + 3, none⟩ = some (.int .i64 room)) (c4 : w.cell? ⟨b, off + 4, none⟩ = some (.int .i64 z4)) (c5 : w.cell? ⟨b, off + 5, none⟩ = some (.int .i64 z5)) (c6 : w.cell? ⟨b, off + 6, none⟩ = some (.int .i64 z6)) (c7 : w.cell? ⟨b, off + 7, none⟩ = some (.int .i64 z7))
 (hL : ∀ W, Calls Tryz.prog 75 #[.agg #[.int .i64 1, .int .i64 alg, .int .i64 1, .int .i64 room, .int .i64 z4, .int .i64 z5, .int .i64 z6, .int .i64 z7], .int .i64 n, .int .i64 0, .int .i64 0] W fun e w' => e = .returned (.tuple #[.agg #[.int .i64 1, .int .i64 alg, .int .i64 1, .int .i64 room, .int .i64 z4, .int .i64 z5, .int .i64 z6, .int .i64 z7, .int .i64 alg, .int .i64 n, .int .i64 1, .int .i64 base, .int .i64 loc, .int .i64 room, .int .i64 0, .int .i64 0, .int .i64 0, .int .i64 0, .int .i64 0, .int .i64 0, .int .i64 0, .int .i64 bs, .int .i64 lc], .bool true]) ∧ Up W w')
 (hS : ∀ W, Calls Tryz.prog 77 #[.agg #[.int .i64 1, .int .i64 alg, .int .i64 1, .int .i64 room, .int .i64 z4, .int .i64 z5, .int .i64 z6, .int .i64 z7, .int .i64 alg, .int .i64 n, .int .i64 1, .int .i64 base, .int .i64 loc, .int .i64 room, .int .i64 0, .int .i64 0, .int .i64 0, .int .i64 0, .int .i64 0, .int .i64 0, .int .i64 0, .int .i64 bs, .int .i64 lc]] W fun e w' => (∃ v, e = .returned v ∧ StrRow w' W.heap.size v l) ∧ Up W w')
 (hZ : ∀ W, Calls Tryz.prog 78 #[.agg #[.int .i64 1, .int .i64 alg, .int .i64 1, .int .i64 room, .int .i64 z4, .int .i64 z5, .int .i64 z6, .int .i64 z7, .int .i64 alg, .int .i64 n, .int .i64 1, .int .i64 base, .int .i64 loc, .int .i64 room, .int .i64 0, .int .i64 0, .int .i64 0, .int .i64 0, .int .i64 0, .int .i64 0, .int .i64 0, .int .i64 bs, .int .i64 lc]] W fun e w' => e = .returned (.int .i64 sz) ∧ Up W w')
 (hl : l.length ≤ 1000) (hm : ∀ i, i < l.length → 0 ≤ (l.getD i sd0).many ∧ (l.getD i sd0).many ≤ 1000) (hsz : 0 ≤ sz ∧ sz ≤ 32768) :
 Calls Tryz.prog 49 #[.slice (some ⟨b, off, none⟩) 1 tc, .int .i64 n] w fun e w' => ∃ ov, e = .returned (.tuple #[ov, .int .i64 0]) ∧ Laid1 w w' ov [.int .i64 1, .int .i64 alg, .int .i64 1, .int .i64 room, .int .i64 z4, .int .i64 z5, .int .i64 z6, .int .i64 z7, .int .i64 alg, .int .i64 n, .int .i64 1, .int .i64 base, .int .i64 loc, .int .i64 room, .int .i64 0, .int .i64 0, .int .i64 0, .int .i64 0, .int .i64 0, .int .i64 0, .int .i64 0, .int .i64 bs, .int .i64 lc] := by
 have HL := hQ' hL
 have HS := hQ' hS
 have HZ := hQ' hZ
 have HC := hQ' (fun (W : World) (A : Option Addr) (c : Nat) (h : StripRow W A l) => libCount_any l A c W hl h hm)
 have hmm := manyL_in hm l.length (Nat.le_refl _)
 rw [List.take_length] at hmm
 obtain ⟨ml, hml⟩ : ∃ x, manyL l = x := ⟨_, rfl⟩
 rw [hml] at HC hmm
 have w1 : wrap64 (0 + ml) = ml := by rw [Int.zero_add]; exact IntWalk.wrap64_in _ (by omega)
 have w2 : wrap64 (0 + sz) = sz := by rw [Int.zero_add]; exact IntWalk.wrap64_in _ (by omega)
 have f1 : ¬ (n < 1) := by omega
 have f2 : ¬ (8 < n) := by omega
 obtain ⟨i0, hi', hz0, hz1, hz2⟩ := info_parts infoOb
 have HIE := hQ' hi'
 have HZ0 := hQ' hz0
 have HZ1 := hQ' hz1
 have HZ2 := hQ' hz2
 have hb := heap_alloc_new w (.cells #[.int .i64 1, .int .i64 alg, .int .i64 1, .int .i64 room, .int .i64 z4, .int .i64 z5, .int .i64 z6, .int .i64 z7] 46)
 have hu := (Up.refl w).alloc (.cells #[.int .i64 1, .int .i64 alg, .int .i64 1, .int .i64 room, .int .i64 z4, .int .i64 z5, .int .i64 z6, .int .i64 z7] 46)
 obtain ⟨W0, hW0⟩ : ∃ x, w.alloc (.cells #[.int .i64 1, .int .i64 alg, .int .i64 1, .int .i64 room, .int .i64 z4, .int .i64 z5, .int .i64 z6, .int .i64 z7] 46) = x := ⟨_, rfl⟩
 rw [hW0] at hb hu
 have k0 := blk_cells hb 0
 have k1 := blk_cells hb 1
 have k2 := blk_cells hb 2
 have k3 := blk_cells hb 3
 have k4 := blk_cells hb 4
 have k5 := blk_cells hb 5
 have k6 := blk_cells hb 6
 have k7 := blk_cells hb 7
 simp only [gA_T, gA_0, gA_S] at k0 k1 k2 k3 k4 k5 k6 k7
 have HU := hQ' hu
 clear hi' hz0 hz1 hz2 hL hS hZ hb hu hl hm hml hmm hsz hn
 go_enter Tryz.func49, Tryz.ntmps49
 go_wp2_with fail
 go_loopw [6, 7, 8, 24] (fun ov cv lv iv wr => (iv = .int .i64 0 ∧ ov = .slice none 0 0 ∧ cv = .int .i64 0 ∧ lv = .int .i64 0 ∧ wr = w) ∨ (iv = .int .i64 1 ∧ Hid (Laid1 w wr ov [.int .i64 1, .int .i64 alg, .int .i64 1, .int .i64 room, .int .i64 z4, .int .i64 z5, .int .i64 z6, .int .i64 z7, .int .i64 alg, .int .i64 n, .int .i64 1, .int .i64 base, .int .i64 loc, .int .i64 room, .int .i64 0, .int .i64 0, .int .i64 0, .int .i64 0, .int .i64 0, .int .i64 0, .int .i64 0, .int .i64 bs, .int .i64 lc]))) (fun _ _ _ iv _ => (1 - intOf iv).toNat)
 case atStart => exact .inl ⟨rfl, rfl, rfl, rfl, rfl⟩
 case round =>
  rcases hrel with ⟨rfl, rfl, rfl, rfl, rfl⟩ | ⟨rfl, HN⟩
  · go_wp2_with fail
    refine (HL.out _).mono ?_
    rintro e w1 ⟨rfl, hu1⟩
    have HU1 := hQ' (HU.out.trans hu1)
    clear hu1 c0 c1 c2 c3 c4 c5 c6 c7 k0 k1 k2 k3 k4 k5 k6 k7 HU hW0 HL
    have hzk : (w1.alloc (.cells #[.int .i64 0, .int .i64 0, .int .i64 0, .int .i64 0, .int .i64 0, .int .i64 0, .int .i64 0, .int .i64 0, .int .i64 0, .int .i64 0, .int .i64 0, .int .i64 0, .int .i64 0, .int .i64 0, .int .i64 0, .int .i64 0, .int .i64 0, .int .i64 0, .int .i64 0, .int .i64 0, .int .i64 0, .int .i64 0, .int .i64 0] 132)).heap[w1.heap.size]? = some (.cells #[.int .i64 0, .int .i64 0, .int .i64 0, .int .i64 0, .int .i64 0, .int .i64 0, .int .i64 0, .int .i64 0, .int .i64 0, .int .i64 0, .int .i64 0, .int .i64 0, .int .i64 0, .int .i64 0, .int .i64 0, .int .i64 0, .int .i64 0, .int .i64 0, .int .i64 0, .int .i64 0, .int .i64 0, .int .i64 0, .int .i64 0] 132 (0, 0)) := heap_alloc_new w1 _
    have hsr := World.setRow_alloc_new w1 #[.int .i64 0, .int .i64 0, .int .i64 0, .int .i64 0, .int .i64 0, .int .i64 0, .int .i64 0, .int .i64 0, .int .i64 0, .int .i64 0, .int .i64 0, .int .i64 0, .int .i64 0, .int .i64 0, .int .i64 0, .int .i64 0, .int .i64 0, .int .i64 0, .int .i64 0, .int .i64 0, .int .i64 0, .int .i64 0, .int .i64 0] #[.int .i64 1, .int .i64 alg, .int .i64 1, .int .i64 room, .int .i64 z4, .int .i64 z5, .int .i64 z6, .int .i64 z7, .int .i64 alg, .int .i64 n, .int .i64 1, .int .i64 base, .int .i64 loc, .int .i64 room, .int .i64 0, .int .i64 0, .int .i64 0, .int .i64 0, .int .i64 0, .int .i64 0, .int .i64 0, .int .i64 bs, .int .i64 lc] 132
    go_upto_region 11 with (first
     | (refine wpList_store_row rfl 132 (.tmp 11) (.tmp 34) rfl w1.heap.size #[.int .i64 1, .int .i64 alg, .int .i64 1, .int .i64 room, .int .i64 z4, .int .i64 z5, .int .i64 z6, .int .i64 z7, .int .i64 alg, .int .i64 n, .int .i64 1, .int .i64 base, .int .i64 loc, .int .i64 room, .int .i64 0, .int .i64 0, .int .i64 0, .int .i64 0, .int .i64 0, .int .i64 0, .int .i64 0, .int .i64 bs, .int .i64 lc] rfl rfl 132 #[.int .i64 0, .int .i64 0, .int .i64 0, .int .i64 0, .int .i64 0, .int .i64 0, .int .i64 0, .int .i64 0, .int .i64 0, .int .i64 0, .int .i64 0, .int .i64 0, .int .i64 0, .int .i64 0, .int .i64 0, .int .i64 0, .int .i64 0, .int .i64 0, .int .i64 0, .int .i64 0, .int .i64 0, .int .i64 0, .int .i64 0] hzk (by kernel_rfl) rfl (by simp [Value.oneCell']) ?_))
    try rw [hsr]
    clear hzk hsr
    have hk2 := heap_alloc_new w1 (.cells #[.int .i64 1, .int .i64 alg, .int .i64 1, .int .i64 room, .int .i64 z4, .int .i64 z5, .int .i64 z6, .int .i64 z7, .int .i64 alg, .int .i64 n, .int .i64 1, .int .i64 base, .int .i64 loc, .int .i64 room, .int .i64 0, .int .i64 0, .int .i64 0, .int .i64 0, .int .i64 0, .int .i64 0, .int .i64 0, .int .i64 bs, .int .i64 lc] 132)
    have hu2 := (Up.refl w1).alloc (.cells #[.int .i64 1, .int .i64 alg, .int .i64 1, .int .i64 room, .int .i64 z4, .int .i64 z5, .int .i64 z6, .int .i64 z7, .int .i64 alg, .int .i64 n, .int .i64 1, .int .i64 base, .int .i64 loc, .int .i64 room, .int .i64 0, .int .i64 0, .int .i64 0, .int .i64 0, .int .i64 0, .int .i64 0, .int .i64 0, .int .i64 bs, .int .i64 lc] 132)
    obtain ⟨W2, hW2⟩ : ∃ x, w1.alloc (.cells #[.int .i64 1, .int .i64 alg, .int .i64 1, .int .i64 room, .int .i64 z4, .int .i64 z5, .int .i64 z6, .int .i64 z7, .int .i64 alg, .int .i64 n, .int .i64 1, .int .i64 base, .int .i64 loc, .int .i64 room, .int .i64 0, .int .i64 0, .int .i64 0, .int .i64 0, .int .i64 0, .int .i64 0, .int .i64 0, .int .i64 bs, .int .i64 lc] 132) = x := ⟨_, rfl⟩
    obtain ⟨qb, hqb⟩ : ∃ x, w1.heap.size = x := ⟨_, rfl⟩
    rw [hW2] at hk2 hu2 ⊢
    rw [hqb] at hk2 ⊢
    have HK2 := hQ' hk2
    have HU2 := hQ' (HU1.out.trans hu2)
    have HQL := hQ' (Array.getElem?_eq_some_iff.1 hk2).1
    clear hW2 hqb hk2 hu2
    have HSZ2 := hQ' (show wr.heap.size ≤ W2.heap.size from HU2.out.size)
    go_upto_region 14 with (first
     | (refine wpList_load_row rfl 132 (.tmp 11) rfl qb rfl 132 #[.int .i64 1, .int .i64 alg, .int .i64 1, .int .i64 room, .int .i64 z4, .int .i64 z5, .int .i64 z6, .int .i64 z7, .int .i64 alg, .int .i64 n, .int .i64 1, .int .i64 base, .int .i64 loc, .int .i64 room, .int .i64 0, .int .i64 0, .int .i64 0, .int .i64 0, .int .i64 0, .int .i64 0, .int .i64 0, .int .i64 bs, .int .i64 lc] (0, 0) _ HK2.out Tryz.underlying132 rfl (by kernel_rfl) ?_)
     | (at_builtin; refine wpList_push3 (news := [.int .i64 1, .int .i64 alg, .int .i64 1, .int .i64 room, .int .i64 z4, .int .i64 z5, .int .i64 z6, .int .i64 z7, .int .i64 alg, .int .i64 n, .int .i64 1, .int .i64 base, .int .i64 loc, .int .i64 room, .int .i64 0, .int .i64 0, .int .i64 0, .int .i64 0, .int .i64 0, .int .i64 0, .int .i64 0, .int .i64 bs, .int .i64 lc]) rfl (.tmp 38) (.tmp 40) 97 rfl wr.heap.size i0 (.agg #[.int .i64 0, .int .i64 0, .int .i64 0, .int .i64 0, .int .i64 0, .int .i64 0, .int .i64 0, .int .i64 0, .int .i64 0, .int .i64 0, .int .i64 0, .int .i64 0, .int .i64 0, .int .i64 0, .int .i64 0, .int .i64 0, .int .i64 0, .int .i64 0, .int .i64 0, .int .i64 0, .int .i64 0, .int .i64 0, .int .i64 0]) 23 184 Tryz.underlying97 HIE.out HZ0.out HZ1.out HZ2.out rfl (by decide) _ 0 [] rfl (own_nil _ _ _ _) rfl rfl (by simp [Value.oneCell']) (by decide) (by decide) HSZ2.out ?_; intro g5 cap5 w5 hown5 hg5 hor5 hlt5 hbel5))
    have HK5 := hQ' ((hg5.block qb HQL.out (show some qb ≠ (none : Option Nat) from by simp)).trans HK2.out)
    have HU5 := hQ' (show Up wr w5 from Below.trans HU2.out hbel5)
    have HO5 := hQ' hown5
    clear hown5 hg5 hor5 hlt5 hbel5
    go_wp2_with (refine wpList_load_row rfl 132 (.tmp 11) rfl qb rfl 132 #[.int .i64 1, .int .i64 alg, .int .i64 1, .int .i64 room, .int .i64 z4, .int .i64 z5, .int .i64 z6, .int .i64 z7, .int .i64 alg, .int .i64 n, .int .i64 1, .int .i64 base, .int .i64 loc, .int .i64 room, .int .i64 0, .int .i64 0, .int .i64 0, .int .i64 0, .int .i64 0, .int .i64 0, .int .i64 0, .int .i64 bs, .int .i64 lc] (0, 0) _ HK5.out Tryz.underlying132 rfl (by kernel_rfl) ?_)
    refine (HS.out _).mono ?_
    rintro e w6 ⟨⟨v, rfl, hv⟩, hu6⟩
    obtain ⟨Av, cv, rfl, hat⟩ := hv.at'
    have HAT := hQ' hat
    have HK6 := hQ' ((hu6.block _ (Array.getElem?_eq_some_iff.1 HK5.out).1).trans HK5.out)
    have HU6 := hQ' (HU5.out.trans hu6)
    have HO6 := hQ' (own_same HO5.out fun k e => hu6.block k (HO5.out.lt k e).2)
    clear hu6 hv hat HK2 HU2 HQL HSZ2 HK5 HU5 HO5
    go_wp2_with fail
    refine (HC.out _ _ _ HAT.out).mono ?_
    rintro e w7 ⟨rfl, hu7⟩
    have HK7 := hQ' ((hu7.block _ (Array.getElem?_eq_some_iff.1 HK6.out).1).trans HK6.out)
    have HU7 := hQ' (HU6.out.trans hu7)
    have HO7 := hQ' (own_same HO6.out fun k e => hu7.block k (HO6.out.lt k e).2)
    clear hu7 HAT HK6 HU6 HO6
    go_wp2_with (refine wpList_load_row rfl 132 (.tmp 11) rfl qb rfl 132 #[.int .i64 1, .int .i64 alg, .int .i64 1, .int .i64 room, .int .i64 z4, .int .i64 z5, .int .i64 z6, .int .i64 z7, .int .i64 alg, .int .i64 n, .int .i64 1, .int .i64 base, .int .i64 loc, .int .i64 room, .int .i64 0, .int .i64 0, .int .i64 0, .int .i64 0, .int .i64 0, .int .i64 0, .int .i64 0, .int .i64 bs, .int .i64 lc] (0, 0) _ HK7.out Tryz.underlying132 rfl (by kernel_rfl) ?_)
    refine (HZ.out _).mono ?_
    rintro e w8 ⟨rfl, hu8⟩
    have HLF := hQ' (show Laid1 wr w8 (.slice (some ⟨g5, 0, none⟩) 1 cap5) [.int .i64 1, .int .i64 alg, .int .i64 1, .int .i64 room, .int .i64 z4, .int .i64 z5, .int .i64 z6, .int .i64 z7, .int .i64 alg, .int .i64 n, .int .i64 1, .int .i64 base, .int .i64 loc, .int .i64 room, .int .i64 0, .int .i64 0, .int .i64 0, .int .i64 0, .int .i64 0, .int .i64 0, .int .i64 0, .int .i64 bs, .int .i64 lc] from ⟨HU7.out.trans hu8, own_same HO7.out fun k e => hu8.block k (HO7.out.lt k e).2⟩)
    clear hu8 HK7 HU7 HO7
    go_wp2_with fail
    go_roundw
    case rel => exact .inr ⟨by first | rfl | go_num, HLF⟩
    case measure => simp [intOf]
  · have HN2 := hQ' HN.out
    clear HN c0 c1 c2 c3 c4 c5 c6 c7 k0 k1 k2 k3 k4 k5 k6 k7 hW0
    go_wp2_with fail
    go_ret2
    exact ⟨_, rfl, HN2.out⟩
end Go.Proofs.YtpodgcpkccpnfaaGreat

namespace Go.Proofs.YtpodgcpkccpnfaaGreat
open Go.RowKit
theorem strL_one (l : List SD) : ∀ u ∈ l.flatMap stripL, u.oneCell' = true := fun u hu => by
 obtain ⟨e, -, hu⟩ := List.mem_flatMap.1 hu
 simp only [stripL, List.mem_cons, List.not_mem_nil, or_false] at hu
 rcases hu with rfl | rfl | rfl <;> rfl
structure Str1 (w wr : World) (ov : Value) (l : List SD) : Prop where
 up : Up w wr
 row : StrRow wr w.heap.size ov l
theorem libStrips_one (alg n base loc room z4 z5 z6 z7 bs lc : Int) (l : List SD) (g cap : Nat) (w : World) (hl : l.length ≤ 1000)
 (hc : ∀ j u, ([.int .i64 1, .int .i64 alg, .int .i64 1, .int .i64 room, .int .i64 z4, .int .i64 z5, .int .i64 z6, .int .i64 z7, .int .i64 alg, .int .i64 n, .int .i64 1, .int .i64 base, .int .i64 loc, .int .i64 room, .int .i64 0, .int .i64 0, .int .i64 0, .int .i64 0, .int .i64 0, .int .i64 0, .int .i64 0, .int .i64 bs, .int .i64 lc] : List Value)[j]? = some u → w.cell? ⟨g, j, none⟩ = some u)
 (hS : ∀ W, Calls Tryz.prog 77 #[.agg #[.int .i64 1, .int .i64 alg, .int .i64 1, .int .i64 room, .int .i64 z4, .int .i64 z5, .int .i64 z6, .int .i64 z7, .int .i64 alg, .int .i64 n, .int .i64 1, .int .i64 base, .int .i64 loc, .int .i64 room, .int .i64 0, .int .i64 0, .int .i64 0, .int .i64 0, .int .i64 0, .int .i64 0, .int .i64 0, .int .i64 bs, .int .i64 lc]] W fun e w' => (∃ v, e = .returned v ∧ StrRow w' W.heap.size v l) ∧ Up W w') :
 Calls Tryz.prog 51 #[.slice (some ⟨g, 0, none⟩) 1 cap] w fun e w' => ∃ ov, e = .returned ov ∧ Str1 w w' ov l := by
 have HS := hQ' hS
 have HR := hQ' (show w.rangeAt g 0 [.int .i64 1, .int .i64 alg, .int .i64 1, .int .i64 room, .int .i64 z4, .int .i64 z5, .int .i64 z6, .int .i64 z7, .int .i64 alg, .int .i64 n, .int .i64 1, .int .i64 base, .int .i64 loc, .int .i64 room, .int .i64 0, .int .i64 0, .int .i64 0, .int .i64 0, .int .i64 0, .int .i64 0, .int .i64 0, .int .i64 bs, .int .i64 lc] from fun j u h => by rw [Nat.zero_add]; exact hc j u h)
 obtain ⟨i0, hi', hz0, hz1, hz2⟩ := info_parts infoStr
 have HIE := hQ' hi'
 have HZ0 := hQ' hz0
 have HZ1 := hQ' hz1
 have HZ2 := hQ' hz2
 have HLL := hQ' hl
 clear hi' hz0 hz1 hz2 hS hc hl
 go_enter Tryz.func51, Tryz.ntmps51
 go_wp2_with fail
 go_loopw [3, 8] (fun ov iv wr => (iv = .int .i64 0 ∧ ov = .slice none 0 0 ∧ wr = w) ∨ (iv = .int .i64 1 ∧ Hid (Str1 w wr ov l))) (fun _ iv _ => (1 - intOf iv).toNat)
 case atStart => exact .inl ⟨rfl, rfl, rfl⟩
 case round =>
  rcases hrel with ⟨rfl, rfl, rfl⟩ | ⟨rfl, HN⟩
  · have hzk : (wr.alloc (.cells #[.int .i64 0, .int .i64 0, .int .i64 0, .int .i64 0, .int .i64 0, .int .i64 0, .int .i64 0, .int .i64 0, .int .i64 0, .int .i64 0, .int .i64 0, .int .i64 0, .int .i64 0, .int .i64 0, .int .i64 0, .int .i64 0, .int .i64 0, .int .i64 0, .int .i64 0, .int .i64 0, .int .i64 0, .int .i64 0, .int .i64 0] 132)).heap[wr.heap.size]? = some (.cells #[.int .i64 0, .int .i64 0, .int .i64 0, .int .i64 0, .int .i64 0, .int .i64 0, .int .i64 0, .int .i64 0, .int .i64 0, .int .i64 0, .int .i64 0, .int .i64 0, .int .i64 0, .int .i64 0, .int .i64 0, .int .i64 0, .int .i64 0, .int .i64 0, .int .i64 0, .int .i64 0, .int .i64 0, .int .i64 0, .int .i64 0] 132 (0, 0)) := heap_alloc_new wr _
    have hsr := World.setRow_alloc_new wr #[.int .i64 0, .int .i64 0, .int .i64 0, .int .i64 0, .int .i64 0, .int .i64 0, .int .i64 0, .int .i64 0, .int .i64 0, .int .i64 0, .int .i64 0, .int .i64 0, .int .i64 0, .int .i64 0, .int .i64 0, .int .i64 0, .int .i64 0, .int .i64 0, .int .i64 0, .int .i64 0, .int .i64 0, .int .i64 0, .int .i64 0] #[.int .i64 1, .int .i64 alg, .int .i64 1, .int .i64 room, .int .i64 z4, .int .i64 z5, .int .i64 z6, .int .i64 z7, .int .i64 alg, .int .i64 n, .int .i64 1, .int .i64 base, .int .i64 loc, .int .i64 room, .int .i64 0, .int .i64 0, .int .i64 0, .int .i64 0, .int .i64 0, .int .i64 0, .int .i64 0, .int .i64 bs, .int .i64 lc] 132
    go_upto_region 5 with (first
     | (refine wpList_load_mid rfl 132 (.tmp 10) rfl g 0 ?_ [.int .i64 1, .int .i64 alg, .int .i64 1, .int .i64 room, .int .i64 z4, .int .i64 z5, .int .i64 z6, .int .i64 z7, .int .i64 alg, .int .i64 n, .int .i64 1, .int .i64 base, .int .i64 loc, .int .i64 room, .int .i64 0, .int .i64 0, .int .i64 0, .int .i64 0, .int .i64 0, .int .i64 0, .int .i64 0, .int .i64 bs, .int .i64 lc] _ HR.out Tryz.underlying132 rfl (by kernel_rfl) ?_; · (first | rfl | (simp; done)))
     | (refine wpList_store_row rfl 132 (.tmp 5) (.tmp 11) rfl wr.heap.size #[.int .i64 1, .int .i64 alg, .int .i64 1, .int .i64 room, .int .i64 z4, .int .i64 z5, .int .i64 z6, .int .i64 z7, .int .i64 alg, .int .i64 n, .int .i64 1, .int .i64 base, .int .i64 loc, .int .i64 room, .int .i64 0, .int .i64 0, .int .i64 0, .int .i64 0, .int .i64 0, .int .i64 0, .int .i64 0, .int .i64 bs, .int .i64 lc] rfl rfl 132 #[.int .i64 0, .int .i64 0, .int .i64 0, .int .i64 0, .int .i64 0, .int .i64 0, .int .i64 0, .int .i64 0, .int .i64 0, .int .i64 0, .int .i64 0, .int .i64 0, .int .i64 0, .int .i64 0, .int .i64 0, .int .i64 0, .int .i64 0, .int .i64 0, .int .i64 0, .int .i64 0, .int .i64 0, .int .i64 0, .int .i64 0] hzk (by kernel_rfl) rfl (by simp [Value.oneCell']) ?_))
    try rw [hsr]
    clear hzk hsr
    have hk2 := heap_alloc_new wr (.cells #[.int .i64 1, .int .i64 alg, .int .i64 1, .int .i64 room, .int .i64 z4, .int .i64 z5, .int .i64 z6, .int .i64 z7, .int .i64 alg, .int .i64 n, .int .i64 1, .int .i64 base, .int .i64 loc, .int .i64 room, .int .i64 0, .int .i64 0, .int .i64 0, .int .i64 0, .int .i64 0, .int .i64 0, .int .i64 0, .int .i64 bs, .int .i64 lc] 132)
    have hu2 := (Up.refl wr).alloc (.cells #[.int .i64 1, .int .i64 alg, .int .i64 1, .int .i64 room, .int .i64 z4, .int .i64 z5, .int .i64 z6, .int .i64 z7, .int .i64 alg, .int .i64 n, .int .i64 1, .int .i64 base, .int .i64 loc, .int .i64 room, .int .i64 0, .int .i64 0, .int .i64 0, .int .i64 0, .int .i64 0, .int .i64 0, .int .i64 0, .int .i64 bs, .int .i64 lc] 132)
    obtain ⟨W2, hW2⟩ : ∃ x, wr.alloc (.cells #[.int .i64 1, .int .i64 alg, .int .i64 1, .int .i64 room, .int .i64 z4, .int .i64 z5, .int .i64 z6, .int .i64 z7, .int .i64 alg, .int .i64 n, .int .i64 1, .int .i64 base, .int .i64 loc, .int .i64 room, .int .i64 0, .int .i64 0, .int .i64 0, .int .i64 0, .int .i64 0, .int .i64 0, .int .i64 0, .int .i64 bs, .int .i64 lc] 132) = x := ⟨_, rfl⟩
    obtain ⟨qb, hqb⟩ : ∃ x, wr.heap.size = x := ⟨_, rfl⟩
    rw [hW2] at hk2 hu2 ⊢
    have HQB := hQ' hqb
    rw [hqb] at hk2 ⊢
    have HK2 := hQ' hk2
    have HU2 := hQ' hu2
    clear hW2 hqb hk2 hu2
    go_wp2_with (refine wpList_load_row rfl 132 (.tmp 5) rfl qb rfl 132 #[.int .i64 1, .int .i64 alg, .int .i64 1, .int .i64 room, .int .i64 z4, .int .i64 z5, .int .i64 z6, .int .i64 z7, .int .i64 alg, .int .i64 n, .int .i64 1, .int .i64 base, .int .i64 loc, .int .i64 room, .int .i64 0, .int .i64 0, .int .i64 0, .int .i64 0, .int .i64 0, .int .i64 0, .int .i64 0, .int .i64 bs, .int .i64 lc] (0, 0) _ HK2.out Tryz.underlying132 rfl (by kernel_rfl) ?_)
    refine (HS.out _).mono ?_
    rintro e w6 ⟨⟨v, rfl, hv⟩, hu6⟩
    have HV := hQ' hv
    have HU6 := hQ' (HU2.out.trans hu6)
    have HSZ := hQ' (show wr.heap.size ≤ w6.heap.size from HU6.out.size)
    have hbb : (0 + l.length) * 24 ≤ 140737488355328 := by have := HLL.out; omega
    clear hu6 hv HK2 HU2
    go_upto_region 6 with (at_builtin; refine wpList_appendOwn rfl (.tmp 12) (.tmp 14) 103 rfl wr.heap.size 152 i0 (.agg #[.int .i64 0, .int .i64 0, .int .i64 0]) 3 24 Tryz.underlying103 HIE.out HZ0.out HZ1.out HZ2.out rfl (by decide) _ 0 [] rfl (own_nil _ _ _ _) W2.heap.size _ l.length (l.flatMap stripL) rfl HV.out (strL_one l) (by decide) hbb HSZ.out ?_; intro v5 w5 hown5 hg5 hbel5 hor5)
    have HLF := hQ' (show Str1 wr w5 v5 l from ⟨Below.trans HU6.out hbel5, by
     unfold StrRow
     simpa using hown5⟩)
    clear hown5 hg5 hbel5 hor5 hbb
    go_wp2_with fail
    go_roundw
    case rel => exact .inr ⟨by first | rfl | go_num, HLF⟩
    case measure => simp [intOf]
  · have HN2 := hQ' HN.out
    clear HN
    go_wp2_with fail
    go_ret
    exact ⟨_, rfl, HN2.out⟩
end Go.Proofs.YtpodgcpkccpnfaaGreat

namespace Go.Proofs.YtpodgcpkccpnfaaGreat
open Go.RowKit
theorem fine_ok {sc : ScD} {a : ScA} (w : World) (hs : ScrAt w sc a) (hok : ScrOK sc)
 (hlay : ∀ W', Up w W' → Calls Tryz.prog 49 #[.slice a.TA sc.things.length a.tc, .int .i64 sc.progs.length] W' fun e w' => (∃ ov, e = .returned (.tuple #[ov, .int .i64 0])) ∧ Up W' w') :
 Calls Tryz.prog 48 #[.agg #[.slice a.TA sc.things.length a.tc, .slice a.PA sc.progs.length a.pc, .slice a.KA sc.picks.length a.kc, .slice a.DA sc.draws.length a.dc]] w fun e w' => e = .returned (.bool true) ∧ Up w w' := by
 have HB0 : Hid (BoxS w (w.alloc (.cells (scrA sc a) 27)) (scrA sc a)) := hQ' ⟨Up.refl _⟩
 have HBB := hQ' (fun (wr : World) (h : BoxS w wr (scrA sc a)) => show wr.cell? ⟨w.heap.size, 0, none⟩ = some (.slice a.TA sc.things.length a.tc) ∧ wr.cell? ⟨w.heap.size, 1, none⟩ = some (.slice a.PA sc.progs.length a.pc) ∧ wr.cell? ⟨w.heap.size, 2, none⟩ = some (.slice a.KA sc.picks.length a.kc) ∧ wr.cell? ⟨w.heap.size, 3, none⟩ = some (.slice a.DA sc.draws.length a.dc) from ⟨h.cell 0, h.cell 1, h.cell 2, h.cell 3⟩)
 have HS := hQ' hs
 have HOK := hQ' hok
 have HLY := hQ' hlay
 have HST := hQ' (fun (W : World) (u : Up w W) => steps_ok W (hs.up u) hok)
 have hn1 : (1 : Int) ≤ sc.progs.length := by have := hok.n.1; omega
 have hn2 : (sc.progs.length : Int) ≤ 8 := by have := hok.n.2; omega
 have hn3 : ¬ ((8 : Int) < sc.things.length) := by have := hok.t; omega
 have hn4 : ¬ ((400 : Int) < sc.picks.length) := by have := hok.k; omega
 have hn5 : ¬ ((64 : Int) < sc.draws.length) := by have := hok.d; omega
 obtain ⟨c0, c1, c2, c3⟩ := HBB.out _ HB0.out
 unfold scrA at c0 c1 c2 c3
 have HWI := hQ' (fun W => within_ok sc.progs.length 1 8 hn1 hn2 W)
 clear hs hok hlay
 go_enter Tryz.func48, Tryz.ntmps48
 go_wp2_with fail
 refine (HWI.out _).mono ?_
 rintro e w1 ⟨rfl, rfl⟩
 go_wp2_with fail
 have hb0 : BoxS w (w.alloc (.cells #[.slice a.TA sc.things.length a.tc, .slice a.PA sc.progs.length a.pc, .slice a.KA sc.picks.length a.kc, .slice a.DA sc.draws.length a.dc] 27)) (scrA sc a) := HB0.out
 generalize w.alloc (.cells #[.slice a.TA sc.things.length a.tc, .slice a.PA sc.progs.length a.pc, .slice a.KA sc.picks.length a.kc, .slice a.DA sc.draws.length a.dc] 27) = W0 at *
 have HB1 := hQ' hb0
 clear hb0 HB0 hn3 hn4 hn5
 go_loopw [43] (fun x wr => ∃ i : Nat, i ≤ sc.progs.length ∧ x = .int .i64 i ∧ Hid (BoxS w wr (scrA sc a))) (fun x _ => sc.progs.length - (intOf x).toNat)
 case atStart => exact ⟨0, by omega, rfl, HB1⟩
 case round =>
  obtain ⟨i, hi, rfl, HV⟩ := hrel
  clear c0 c1 c2 c3
  obtain ⟨c0, c1, c2, c3⟩ := HBB.out _ HV.out
  by_cases hlt : i < sc.progs.length
  · have hii : (i : Int) < sc.progs.length := by omega
    have hi0 : (0 : Int) ≤ i := by omega
    obtain ⟨b, off, A', c', eA, x0, x1, x2⟩ := (HS.out.up HV.out.w).pr i hlt
    obtain ⟨y1, y2⟩ := HOK.out.pl i hlt
    rw [eA]
    have HLT := hQ' hlt
    have HC := hQ' (fun j h => y2 j h)
    have HCA := hQ' x1
    have HUR := hQ' (Up.refl wr)
    generalize sc.progs.getD i [] = l at *
    have hy1 : ¬ ((24 : Int) < l.length) := by omega
    clear y1 y2 x1 x2 hlt
    go_wp2_with fail
    go_loopw [52] (fun x wq => ∃ j : Nat, j ≤ l.length ∧ x = .int .i64 j ∧ Hid (Up wr wq)) (fun x _ => l.length - (intOf x).toNat)
    case atStart => exact ⟨0, by omega, rfl, HUR⟩
    case round =>
     obtain ⟨j, hj, rfl, HQ⟩ := hrel
     by_cases hlj : j < l.length
     · have hji : (j : Int) < l.length := by omega
       have hj0 : (0 : Int) ≤ j := by omega
       obtain ⟨b2, off2, eB, z0, z1, z2⟩ := (HCA.out.up HQ.out) j hlj
       have HJ := hQ' hlj
       have HP := hQ' (HC.out j hlj)
       rw [eB]
       generalize l.getD j (0, 0, 0) = c at *
       obtain ⟨q0, q1, q2⟩ := c
       dsimp only at z0 z1 z2
       have HF := hQ' (fun W => fineCall_ok q0 q1 q2 HP.out W)
       have HUA := hQ' (HQ.out.trans ((Up.refl wr).alloc (.cells #[.int .i64 q0, .int .i64 q1, .int .i64 q2] 65)))
       have hbq := heap_alloc_new wr (.cells #[.int .i64 q0, .int .i64 q1, .int .i64 q2] 65)
       have k0 := cell_of_row _ _ 0 _ _ _ hbq
       have k1 := cell_of_row _ _ 1 _ _ _ hbq
       have k2 := cell_of_row _ _ 2 _ _ _ hbq
       simp only [gA_T, gA_0, gA_S] at k0 k1 k2
       clear hlj hbq
       go_wp2_with fail
       refine (HF.out _).mono ?_
       rintro e w2 ⟨rfl, hu2⟩
       have HU2 := hQ' (HUA.out.trans hu2)
       clear hu2 HUA k0 k1 k2
       go_wp2_with fail
       go_roundw
       case rel => exact ⟨j + 1, HJ.out, by first | rfl | go_num, HU2⟩
       case measure => have := HJ.out; simp [intOf]; omega
     · have hje : j = l.length := by omega
       subst hje
       have hnl : ¬ ((l.length : Int) < l.length) := by omega
       have HVE := hQ' (HV.out.go HQ.out)
       clear HQ
       go_wp2_with fail
       go_roundw
       case rel => exact ⟨i + 1, HLT.out, by first | rfl | go_num, HVE⟩
       case measure => have := HLT.out; simp [intOf]; omega
  · have hie : i = sc.progs.length := by omega
    subst hie
    have hnl : ¬ ((sc.progs.length : Int) < sc.progs.length) := by omega
    have HV1 := hQ' HV.out
    clear HV hlt hi
    go_wp2_with fail
    go_loopw [64] (fun x wr2 => ∃ i : Nat, i ≤ sc.picks.length ∧ x = .int .i64 i ∧ Hid (BoxS w wr2 (scrA sc a))) (fun x _ => sc.picks.length - (intOf x).toNat)
    case atStart => exact ⟨0, by omega, rfl, HV1⟩
    case round =>
     obtain ⟨i, hi, rfl, HV⟩ := hrel
     clear c0 c1 c2 c3 hnl
     obtain ⟨c0, c1, c2, c3⟩ := HBB.out _ HV.out
     by_cases hlt : i < sc.picks.length
     · have hii : (i : Int) < sc.picks.length := by omega
       have hi0 : (0 : Int) ≤ i := by omega
       obtain ⟨b, off, eA, x0, x1, x2⟩ := (HS.out.up HV.out.w).pk i hlt
       have HP := hQ' (HOK.out.pk i hlt)
       have HLT := hQ' hlt
       rw [eA]
       generalize sc.picks.getD i pick0 = p at *
       have HF := hQ' (fun W => finePick_ok sc.progs.length HOK.out.n.2 p HP.out W)
       obtain ⟨q0, q1, q2⟩ := p
       dsimp only at x0 x1 x2 HF
       have HUA := hQ' ((Up.refl wr).alloc (.cells #[.int .i64 q0, .int .i64 q1, .bool q2] 68))
       have hbq := heap_alloc_new wr (.cells #[.int .i64 q0, .int .i64 q1, .bool q2] 68)
       have k0 := cell_of_row _ _ 0 _ _ _ hbq
       have k1 := cell_of_row _ _ 1 _ _ _ hbq
       have k2 := cell_of_row _ _ 2 _ _ _ hbq
       simp only [gA_T, gA_0, gA_S] at k0 k1 k2
       clear hlt hbq hi
       go_wp2_with fail
       refine (HF.out _).mono ?_
       rintro e w2 ⟨rfl, hu2⟩
       have HU2 := hQ' (HV.out.go (HUA.out.trans hu2))
       clear hu2 HUA k0 k1 k2 HV
       go_wp2_with fail
       go_roundw
       case rel => exact ⟨i + 1, HLT.out, by first | rfl | go_num, HU2⟩
       case measure => have := HLT.out; simp [intOf]; omega
     · have hie : i = sc.picks.length := by omega
       subst hie
       have hnl : ¬ ((sc.picks.length : Int) < sc.picks.length) := by omega
       have HV2 := hQ' HV.out
       clear HV hlt hi
       go_wp2_with fail
       go_loopw [76] (fun x wr3 => ∃ i : Nat, i ≤ sc.draws.length ∧ x = .int .i64 i ∧ Hid (BoxS w wr3 (scrA sc a))) (fun x _ => sc.draws.length - (intOf x).toNat)
       case atStart => exact ⟨0, by omega, rfl, HV2⟩
       case round =>
        obtain ⟨i, hi, rfl, HV⟩ := hrel
        clear c0 c1 c2 c3 hnl
        obtain ⟨c0, c1, c2, c3⟩ := HBB.out _ HV.out
        by_cases hlt : i < sc.draws.length
        · have hii : (i : Int) < sc.draws.length := by omega
          have hi0 : (0 : Int) ≤ i := by omega
          obtain ⟨b, off, eA, x0⟩ := (HS.out.up HV.out.w).dr i hlt
          have HP := hQ' (HOK.out.dr i hlt)
          have HLT := hQ' hlt
          rw [eA]
          unfold IVal at x0
          generalize sc.draws.getD i 0 = d at *
          have HF := hQ' (fun W => within_ok d 0 1073741823 HP.out.1 HP.out.2 W)
          clear hlt hi
          go_wp2_with fail
          refine (HF.out _).mono ?_
          rintro e w2 ⟨rfl, rfl⟩
          have HU2 := hQ' HV.out
          clear HV
          go_wp2_with fail
          go_roundw
          case rel => exact ⟨i + 1, HLT.out, by first | rfl | go_num, HU2⟩
          case measure => have := HLT.out; simp [intOf]; omega
        · have hie : i = sc.draws.length := by omega
          subst hie
          have hnl : ¬ ((sc.draws.length : Int) < sc.draws.length) := by omega
          have HV3 := hQ' HV.out
          clear HV hlt hi
          go_wp2_with fail
          go_loopw [87] (fun x wr4 => ∃ i : Nat, i ≤ sc.things.length ∧ x = .int .i64 i ∧ Hid (BoxS w wr4 (scrA sc a))) (fun x _ => sc.things.length - (intOf x).toNat)
          case atStart => exact ⟨0, by omega, rfl, HV3⟩
          case round =>
           obtain ⟨i, hi, rfl, HV⟩ := hrel
           clear c0 c1 c2 c3 hnl
           obtain ⟨c0, c1, c2, c3⟩ := HBB.out _ HV.out
           by_cases hlt : i < sc.things.length
           · have hii : (i : Int) < sc.things.length := by omega
             have hi0 : (0 : Int) ≤ i := by omega
             obtain ⟨b, off, eA, ⟨x0, x1, x2, x3⟩, x4, x5, x6, x7⟩ := (HS.out.up HV.out.w).th i hlt
             have HP := hQ' (HOK.out.th i hlt)
             have HLT := hQ' hlt
             rw [eA]
             generalize sc.things.getD i thing0 = p at *
             have HF := hQ' (fun W => fineThing_ok p HP.out W)
             obtain ⟨q0, q1, q2, q3, q4, q5, q6, q7⟩ := p
             dsimp only at x0 x1 x2 x3 x4 x5 x6 x7 HF
             have HUA := hQ' ((Up.refl wr).alloc (.cells #[.int .i64 q0, .int .i64 q1, .int .i64 q2, .int .i64 q3, .int .i64 q4, .int .i64 q5, .int .i64 q6, .int .i64 q7] 46))
             have hbq := heap_alloc_new wr (.cells #[.int .i64 q0, .int .i64 q1, .int .i64 q2, .int .i64 q3, .int .i64 q4, .int .i64 q5, .int .i64 q6, .int .i64 q7] 46)
             have k0 := cell_of_row _ _ 0 _ _ _ hbq
             have k1 := cell_of_row _ _ 1 _ _ _ hbq
             have k2 := cell_of_row _ _ 2 _ _ _ hbq
             have k3 := cell_of_row _ _ 3 _ _ _ hbq
             have k4 := cell_of_row _ _ 4 _ _ _ hbq
             have k5 := cell_of_row _ _ 5 _ _ _ hbq
             have k6 := cell_of_row _ _ 6 _ _ _ hbq
             have k7 := cell_of_row _ _ 7 _ _ _ hbq
             simp only [gA_T, gA_0, gA_S] at k0 k1 k2 k3 k4 k5 k6 k7
             clear hlt hbq hi
             go_wp2_with fail
             refine (HF.out _).mono ?_
             rintro e w2 ⟨rfl, hu2⟩
             have HU2 := hQ' (HV.out.go (HUA.out.trans hu2))
             clear hu2 HUA k0 k1 k2 k3 k4 k5 k6 k7 HV
             go_wp2_with fail
             go_roundw
             case rel => exact ⟨i + 1, HLT.out, by first | rfl | go_num, HU2⟩
             case measure => have := HLT.out; simp [intOf]; omega
           · have hie : i = sc.things.length := by omega
             subst hie
             have hnl : ¬ ((sc.things.length : Int) < sc.things.length) := by omega
             have HV4 := hQ' HV.out
             have hst : ¬ ((4000 : Int) < timesL sc.picks) := by have := HOK.out.st; omega
             clear HV hlt hi
             go_wp2_with fail
             refine (HST.out _ HV4.out.w).mono ?_
             rintro e w2 ⟨rfl, hu2⟩
             have HV5 := hQ' (HV4.out.go hu2)
             clear hu2 HV4 c0 c1 c2 c3
             obtain ⟨c0, c1, c2, c3⟩ := HBB.out _ HV5.out
             go_wp2_with fail
             refine (HLY.out _ HV5.out.w).mono ?_
             rintro e w3 ⟨⟨ov, rfl⟩, hu3⟩
             have HV6 := hQ' (HV5.out.go hu3)
             clear hu3 HV5 c0 c1 c2 c3
             go_wp2_with fail
             go_ret
             exact ⟨rfl, HV6.out.w⟩
end Go.Proofs.YtpodgcpkccpnfaaGreat

namespace Go.Proofs.YtpodgcpkccpnfaaGreat
open Go.RowKit
theorem infoI' : (Tryz.prog.info? 3).map (fun i => (i.zero, i.size, i.bytes)) = some (some (.int .i64 0), 1, 8) := by kernel_rfl
structure Gat (w wr : World) (n : Nat) : Prop where
 up : Up w wr
 cell : ∀ i, i < n → ∃ x, wr.cell? ⟨w.heap.size, i, none⟩ = some (.int .i64 x)
 lt : w.heap.size < wr.heap.size
 fz : ∀ i, wr.frozen? ⟨w.heap.size, i, none⟩ = false
theorem Gat.grow {w wr w' : World} {n : Nat} (h : Gat w wr n) (u : Up wr w') : Gat w w' n :=
 ⟨h.up.trans u, fun i hi => (h.cell i hi).imp fun x hx => (u.cell h.lt).trans hx, Nat.lt_of_lt_of_le h.lt u.size, fun i => (u.frozen h.lt).trans (h.fz i)⟩
theorem Gat.set {w wr : World} {n : Nat} (h : Gat w wr n) (j : Nat) (x : Int) : Gat w (wr.setCell ⟨w.heap.size, j, none⟩ (.int .i64 x)) n := by
 refine ⟨h.up.setCell (p := ⟨w.heap.size, j, none⟩) (Nat.le_refl _) _, fun i hi => ?_, by simpa using h.lt, fun i => by simpa [go_sem] using h.fz i⟩
 obtain ⟨y, hy⟩ := h.cell i hi
 by_cases e : i = j
 · subst e; exact ⟨x, World.cell?_setCell_same _ _ _ hy⟩
 · exact ⟨y, (World.cell?_setCell_other _ _ _ _ (by simp <;> omega)).trans hy⟩
theorem gather_any (F : Nat) (b : Value) (n : Nat) (hn : n ≤ 8) (w : World) (hcf : ∀ (args : Array Value) (W : World), (callFunc F args).run Tryz.prog W = .ok (.enter F args) W)
 (hcall : ∀ t : Nat, t < n → ∀ W', Up w W' → Calls Tryz.prog F #[b, .int .i64 t] W' fun e w'' => (∃ x, e = .returned (.int .i64 x)) ∧ Up W' w'') :
 Calls Tryz.prog 28 #[.int .i64 n, .func (.func F) #[b] #[]] w fun e w' => (∃ A m c, e = .returned (.slice A m c)) ∧ Up w w' := by
 have hmk : ∀ W : World, (Instr.makeSlice 25 (.int .i64 n) (.int .i64 n)).run Tryz.prog W = .ok (.slice (some ⟨W.heap.size, 0, none⟩) n n) (W.alloc (.cells (madeCells #[.int .i64 0] n) 3)) := fun W =>
  run_make_row' 25 3 (.int .i64 0) 8 Tryz.underlying25 infoI' rfl .i64 .i64 n (by omega) (by omega) W
 have HG0 : Hid (Gat w (w.alloc (.cells (madeCells #[.int .i64 0] n) 3)) n) := hQ' ⟨(Up.refl w).alloc _, fun i hi => ⟨0, by
  rw [World.cell?_alloc_at _ _ _ _ rfl]
  simp [madeCells, hi]
  rw [Nat.mod_one]; rfl⟩, by simp, fun i => frozen_of_row _ _ i _ _ (heap_alloc_new w _)⟩
 have HC := hQ' hcall
 have HN := hQ' hn
 clear hcall
 go_enter Tryz.func28, Tryz.ntmps28
 go_wp2_with fail
 generalize w.alloc (.cells (madeCells #[.int .i64 0] n) 3) = W0 at *
 clear hmk
 go_loopw [11] (fun t wr => ∃ j : Nat, j ≤ n ∧ t = .int .i64 j ∧ Hid (Gat w wr n)) (fun t _ => n - (intOf t).toNat)
 case atStart => exact ⟨0, by omega, rfl, HG0⟩
 case round =>
  obtain ⟨j, hj, rfl, HG⟩ := hrel
  by_cases hlt : j < n
  · have hji : (j : Int) < n := by omega
    have hj0 : (0 : Int) ≤ j := by omega
    have HJ := hQ' hlt
    go_wp2_with fail
    refine (HC.out j HJ.out wr HG.out.up).mono ?_
    rintro e w1 ⟨⟨x, rfl⟩, hu⟩
    have HG1 := hQ' (HG.out.grow hu)
    obtain ⟨y, hy⟩ := HG1.out.cell j hlt
    have hf := HG1.out.fz j
    clear hu HG
    go_wp2_with fail
    have HG2 := hQ' (HG1.out.set j x)
    clear hy hf HG1
    go_wp2_with fail
    go_roundw
    case rel => exact ⟨j + 1, by omega, by first | rfl | go_num, HG2⟩
    case measure => simp [intOf]; omega
  · have hje : j = n := by omega
    subst hje
    have hnl : ¬ ((j : Int) < j) := by omega
    have HGE := hQ' HG.out
    clear HG
    go_wp2_with fail
    go_ret
    exact ⟨⟨_, _, _, rfl⟩, HGE.out.up⟩
end Go.Proofs.YtpodgcpkccpnfaaGreat

namespace Go.Proofs.YtpodgcpkccpnfaaGreat
open Go.RowKit
theorem infoCl : (Tryz.prog.info? 65).map (fun i => (i.zero, i.size, i.bytes)) = some (some (.agg #[.int .i64 0, .int .i64 0, .int .i64 0]), 3, 24) := by kernel_rfl
def callL (c : CD) : List Value := [.int .i64 c.1, .int .i64 c.2.1, .int .i64 c.2.2]
theorem callL_one (l : List CD) : ∀ u ∈ l.flatMap callL, u.oneCell' = true := fun u hu => by
 obtain ⟨e, -, hu⟩ := List.mem_flatMap.1 hu
 simp only [callL, List.mem_cons, List.not_mem_nil, or_false] at hu
 rcases hu with rfl | rfl | rfl <;> rfl
theorem callL_len (l : List CD) : (l.flatMap callL).length = l.length * 3 := by
 induction l with
 | nil => rfl
 | cons a l ih => rw [List.flatMap_cons, List.length_append, ih]; simp [callL]; omega
def ProgRow (w : World) (q : Nat) (v : Value) (l : List CD) : Prop := w.ownsRow q 65 3 v l.length (l.flatMap callL)
theorem ProgRow.up {w w' : World} {q : Nat} {lv : Value} {l : List CD} (h : ProgRow w q lv l) (u : Up w w') : ProgRow w' q lv l := own_same h fun k e => u.block k (World.ownsRow.lt h k e).2
theorem ProgRow.at' {w : World} {q : Nat} {lv : Value} {l : List CD} (h : ProgRow w q lv l) (hl : 0 < l.length) : ∃ b c, lv = .slice (some ⟨b, 0, none⟩) l.length c ∧ q ≤ b ∧ b < w.heap.size ∧ l.length ≤ c ∧ ProgAt w (some ⟨b, 0, none⟩) l := by
 obtain ⟨b, cap, rfl, hq, hc⟩ := own_flat (0, 0, 0) h (fun _ => rfl) hl
 obtain ⟨A, c, e, hcap, _⟩ := own_form h
 cases e
 refine ⟨b, cap, rfl, hq, (h.lt b rfl).2, hcap, fun i hi => ?_⟩
 obtain ⟨b2, cap2, e2, _, hc2⟩ := own_flat (0, 0, 0) h (fun _ => rfl) hi
 cases e2
 exact ⟨b, 0, rfl, hc2 0 (by decide), hc2 1 (by decide), hc2 2 (by decide)⟩
theorem cloneC_any (l : List CD) (b off c : Nat) (w : World) (hpos : 0 < l.length) (hn : l.length ≤ 1000000) (hr : ProgAt w (some ⟨b, off, none⟩) l) :
 Calls Tryz.prog 53 #[.slice (some ⟨b, off, none⟩) l.length c] w fun e w' => ∃ v, e = .returned v ∧ ProgRow w' w.heap.size v l ∧ Up w w' := by
 obtain ⟨i0, hi, hz0, hz1, hz2⟩ := info_parts infoCl
 have HI := hQ' hi
 have HZ0 := hQ' hz0
 have HZ1 := hQ' hz1
 have HZ2 := hQ' hz2
 have hnil := fun W : World => Lib.run_eql_slice_nil (P := Tryz.prog) W 66 65 (some ⟨b, off, none⟩) l.length c 0 0 Tryz.underlying66
 have HL := hQ' (callL_len l)
 have HO := hQ' (callL_one l)
 have HN := hQ' hn
 have HC := hQ' (fun (j : Nat) (u : Value) (hu : (l.flatMap callL)[j]? = some u) => show w.cell? ⟨b, off + j, none⟩ = some u from by
  have hj := (List.getElem?_eq_some_iff.1 hu).1
  rw [callL_len] at hj
  obtain ⟨b2, off2, e, h0, h1, h2⟩ := hr (j / 3) (by omega)
  cases e
  have hf := flat_get callL 3 (0, 0, 0) l (j / 3) (j % 3) (fun _ => rfl) (by omega) (by omega)
  rw [show j / 3 * 3 + j % 3 = j by omega] at hf
  rw [hf] at hu
  rw [show off + j = off + j / 3 * 3 + j % 3 by omega]
  have h3 : j % 3 < 3 := by omega
  generalize j % 3 = m at *
  match m, h3 with
  | 0, _ => rw [Nat.add_zero]; rw [h0]; exact hu
  | 1, _ => rw [h1]; exact hu
  | 2, _ => rw [h2]; exact hu)
 have HX := hQ' (show b < w.heap.size from by
  obtain ⟨b2, off2, e, h0, h1, h2⟩ := hr 0 hpos
  cases e
  exact cell_lt h0)
 obtain ⟨xs, hxs⟩ : ∃ xs, l.flatMap callL = xs := ⟨_, rfl⟩
 unfold ProgRow
 rw [hxs] at HL HO HC ⊢
 obtain ⟨n, hln⟩ : ∃ n, l.length = n := ⟨_, rfl⟩
 rw [hln] at HL HN hnil ⊢
 clear hi hz0 hz1 hz2 hr hn hpos hxs hln
 go_enter Tryz.func53, Tryz.ntmps53
 go_wp2_with (at_builtin; refine wpList_append_own_at _ rfl (.tmp 5) (.tmp 6) 66 rfl w.heap.size 65 i0 (.agg #[.int .i64 0, .int .i64 0, .int .i64 0]) 3 24 Tryz.underlying66 HI.out HZ0.out HZ1.out HZ2.out rfl (by decide) _ 0 [] rfl ?_ ⟨b, off, none⟩ n c xs rfl HL.out ?_ HO.out ?_ ?_ ?_ ?_)
 case _ => exact ⟨rfl, .inr ⟨w.heap.size, 0, #[], rfl, Nat.le_refl _, heap_alloc_new w _, by decide, by decide, by simp⟩⟩
 case _ =>
  intro j u hu
  have h2 := (cellE (o := off + j) (((Up.refl w).alloc (.cells #[] 65)).block b HX.out)).trans (HC.out j u hu)
  rw [Go.WideShapes.add_plain]; exact h2
 case _ => have := HN.out; unfold maxLen; omega
 case _ => have := HN.out; omega
 case _ => simp
 · intro v1 w1 hown1 hg _ _
   have HOW := hQ' (show w1.ownsRow w.heap.size 65 3 v1 n xs from by simpa using hown1)
   have HU := hQ' (show Up w w1 from Below.trans ((Up.refl w).alloc _) (grownBy_below hg (by simp) (fun k e => by simp [Value.ownBlock] at e; omega)))
   clear hown1 hg
   go_wp2_with fail
   go_ret
   exact ⟨_, rfl, HOW.out, HU.out⟩
end Go.Proofs.YtpodgcpkccpnfaaGreat

