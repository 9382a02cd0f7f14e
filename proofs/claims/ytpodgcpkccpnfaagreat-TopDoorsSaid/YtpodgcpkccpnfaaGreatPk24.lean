/-
  Parts of a proof, packed: NewB, NewC, RunA
-/
import Derived.Test.YtpodgcpkccpnfaaGreatPk01
import Derived.Test.YtpodgcpkccpnfaaGreatPk21
import Derived.Test.YtpodgcpkccpnfaaGreatPk23
set_option linter.unusedVariables false
set_option linter.unusedSimpArgs false
set_option maxRecDepth 20000
set_option maxHeartbeats 16000000
namespace Go.Proofs.YtpodgcpkccpnfaaGreat
open Go.RowKit
theorem infoThr : (Tryz.prog.info? 113).map (fun i => (i.zero, i.size, i.bytes)) = some (some (.agg #[.slice none 0 0, .int .i64 0, .slice none 0 0, .slice none 0 0, .int .i64 0, .int .i64 0, .int .i64 0, .int .i64 0, .int .i64 0, .int .i64 0, .bool false]), 11, 136) := by kernel_rfl
def thL (pv : Value) : List Value := [pv, .int .i64 0, .slice none 0 0, .slice none 0 0, .int .i64 0, .int .i64 0, .int .i64 0, .int .i64 0, .int .i64 0, .int .i64 0, .bool false]
def nilV : Value := .slice none 0 0
structure NewT (W1 wr : World) (b h : Nat) (ov dv : Value) (progs : List (List CD)) (tv : Value) (pvs : List Value) : Prop where
 below : Below b W1 wr
 blk : wr.heap[b]? = some (.cells #[ov, .pointer (some ⟨h, 0, none⟩), tv, dv, .int .i64 0, .int .i64 0] 108 (0, 0))
 row : wr.ownsRow (b + 1) 113 11 tv pvs.length (pvs.flatMap thL)
 pr : ∀ i, i < pvs.length → ProgRow wr (b + 1) (pvs.getD i nilV) (progs.getD i []) ∧ ∀ k, (pvs.getD i nilV).ownBlock = some k → tv.ownBlock ≠ some k
structure NewP (ObP : World → Value → Prop) (w w' : World) (sc : ScD) (l : List SD) (b h B : Nat) (X : Nat → Prop) (ov dv tv : Value) (pvs : List Value) : Prop where
 up : Up w w'
 Bw : w.heap.size ≤ B
 Bb : B ≤ b
 bank : BankM w' B h l bs0 0 X
 xlt : ∀ k, X k → k < b
 ob : ObP w' ov
 oq : ∀ q n c, ov = .slice (some ⟨q, 0, none⟩) n c → q < B
 drow : w'.ownsRow B 3 1 dv sc.draws.length (icells sc.draws)
 dq : ∀ k, dv.ownBlock = some k → ¬ X k ∧ k < b
 len : pvs.length = sc.progs.length
 blk : w'.heap[b]? = some (.cells #[ov, .pointer (some ⟨h, 0, none⟩), tv, dv, .int .i64 0, .int .i64 0] 108 (0, 0))
 row : w'.ownsRow (b + 1) 113 11 tv pvs.length (pvs.flatMap thL)
 pr : ∀ i, i < pvs.length → ProgRow w' (b + 1) (pvs.getD i nilV) (sc.progs.getD i []) ∧ ∀ k, (pvs.getD i nilV).ownBlock = some k → tv.ownBlock ≠ some k
def NewQ (ObP : World → Value → Prop) (w : World) (sc : ScD) (l : List SD) (e : Ending) (w' : World) : Prop := ∃ (b h B : Nat) (X : Nat → Prop) (ov dv tv : Value) (pvs : List Value), e = .returned (.tuple #[.pointer (some ⟨b, 0, none⟩), .int .i64 0]) ∧ NewP ObP w w' sc l b h B X ov dv tv pvs
theorem getD_app_lt {α : Type} (l : List α) (x d : α) {i : Nat} (h : i < l.length) : (l ++ [x]).getD i d = l.getD i d := by
 rw [List.getD_eq_getElem?_getD, List.getD_eq_getElem?_getD, List.getElem?_append_left h]
theorem getD_app_eq {α : Type} (l : List α) (x d : α) : (l ++ [x]).getD l.length d = x := by
 rw [List.getD_eq_getElem?_getD, List.getElem?_append_right (Nat.le_refl _), Nat.sub_self]; rfl
theorem NewT.push {W1 wr wc w5 : World} {b h : Nat} {ov dv : Value} {progs : List (List CD)} {tv pv : Value} {pvs : List Value} {g5 cap5 : Nat} (H : NewT W1 wr b h ov dv progs tv pvs) (hu : Up wr.drew wc) (hp : ProgRow wc wr.heap.size pv (progs.getD pvs.length []))
 (hown : w5.ownsRow (b + 1) 113 11 (.slice (some ⟨g5, 0, none⟩) (pvs.length + 1) cap5) (pvs.length + 1) (pvs.flatMap thL ++ thL pv))
 (hg : (wc.alloc (.cells (thL pv).toArray 113)).grownBy w5 tv.ownBlock) (hat : tv.ownBlock = some g5 ∨ g5 = (wc.alloc (.cells (thL pv).toArray 113)).heap.size) :
 NewT W1 (w5.setCell ⟨b, 2, none⟩ (.slice (some ⟨g5, 0, none⟩) (pvs.length + 1) cap5)) b h ov dv progs (.slice (some ⟨g5, 0, none⟩) (pvs.length + 1) cap5) (pvs ++ [pv]) := by
 have hbl := (Array.getElem?_eq_some_iff.1 H.blk).1
 have hsz : wr.heap.size ≤ wc.heap.size := hu.size
 have hs1 : (wc.alloc (.cells (thL pv).toArray 113)).heap.size = wc.heap.size + 1 := by simp
 have hu1 : Up wr (wc.alloc (.cells (thL pv).toArray 113)) := ((Up.refl wr).drew.trans hu).trans ((Up.refl wc).alloc _)
 have htv : ∀ k, tv.ownBlock = some k → b + 1 ≤ k ∧ k < wr.heap.size := fun k e => H.row.lt k e
 have hk5 : ∀ k, k < (wc.alloc (.cells (thL pv).toArray 113)).heap.size → tv.ownBlock ≠ some k → w5.heap[k]? = (wc.alloc (.cells (thL pv).toArray 113)).heap[k]? := fun k hk hne => hg.block k hk (fun e => hne e.symm)
 have hb5 : w5.heap[b]? = wr.heap[b]? := (hk5 b (by omega) (fun e => by have := htv b e; omega)).trans (hu1.block b hbl)
 have hset : ∀ k, k ≠ b → (w5.setCell ⟨b, 2, none⟩ (.slice (some ⟨g5, 0, none⟩) (pvs.length + 1) cap5)).heap[k]? = w5.heap[k]? := fun k hk => Below.heap_setCell w5 ⟨b, 2, none⟩ _ k hk
 refine ⟨?_, ?_, ?_, fun i hi => ?_⟩
 · refine Below.setCell (p := ⟨b, 2, none⟩) ?_ (Nat.le_refl _) _
   refine H.below.trans ((Below.mono hu1 (Nat.le_of_lt hbl)).trans ?_)
   exact Below.mono (grownBy_below hg (by omega) fun k e => (htv k e).1) (Nat.le_succ b)
 · exact cells_setCell (hb5.trans H.blk) 2 _
 · have e : (pvs ++ [pv]).flatMap thL = pvs.flatMap thL ++ thL pv := by rw [List.flatMap_append]; simp
   rw [e, List.length_append, List.length_singleton]
   exact own_same hown fun k e => hset k (fun e2 => by have := (hown.lt k e).1; omega)
 · rw [List.length_append, List.length_singleton] at hi
   rcases Nat.lt_or_ge i pvs.length with hlt | hge
   · rw [getD_app_lt _ _ _ hlt]
     obtain ⟨h1, h2⟩ := H.pr i hlt
     refine ⟨own_same h1 fun k e => ?_, fun k e e2 => ?_⟩
     · have hkl := h1.lt k e
       exact (hset k (by omega)).trans ((hk5 k (by omega) (h2 k e)).trans (hu1.block k hkl.2))
     · have hkl := h1.lt k e
       have e3 : g5 = k := by cases e2; rfl
       rcases hat with q | q
       · exact h2 k e (by rw [q, e3])
       · omega
   · have hie : i = pvs.length := by omega
     subst hie
     rw [getD_app_eq]
     have hpb := own_base hp (show b + 1 ≤ wr.heap.size by omega)
     refine ⟨own_same hpb fun k e => ?_, fun k e e2 => ?_⟩
     · have hkl := hp.lt k e
       have := hk5 k (by omega) (fun e2 => by have := htv k e2; omega)
       exact (hset k (by omega)).trans (this.trans (((Up.refl wc).alloc _).block k hkl.2))
     · have hkl := hp.lt k e
       have e3 : g5 = k := by cases e2; rfl
       rcases hat with q | q
       · have := htv g5 q; omega
       · omega
theorem wnew_any {sc : ScD} {a : ScA} {l : List SD} (ObP : World → Value → Prop) (w : World) (hs : ScrAt w sc a) (hpos : ∀ i, i < sc.progs.length → 0 < (sc.progs.getD i []).length) (hn8 : sc.progs.length ≤ 8) (hd64 : sc.draws.length ≤ 64) (hl : l.length ≤ 1000) (hcnt : (countP l).2 = 0)
 (hOB : ∀ W W' v, ObP W v → Up W W' → ObP W' v) (hOq : ∀ W v, ObP W v → ∃ q n c, v = .slice (some ⟨q, 0, none⟩) n c ∧ q < W.heap.size)
 (hfine : ∀ W, Up w W → Calls Tryz.prog 48 #[.agg #[.slice a.TA sc.things.length a.tc, .slice a.PA sc.progs.length a.pc, .slice a.KA sc.picks.length a.kc, .slice a.DA sc.draws.length a.dc]] W fun e w' => e = .returned (.bool true) ∧ Up W w')
 (hlay : ∀ W, Up w W → Calls Tryz.prog 49 #[.slice a.TA sc.things.length a.tc, .int .i64 sc.progs.length] W fun e w' => ∃ ov, e = .returned (.tuple #[ov, .int .i64 0]) ∧ ObP w' ov ∧ Up W w')
 (hstr : ∀ W ov, ObP W ov → Calls Tryz.prog 51 #[ov] W fun e w' => ∃ sv, e = .returned sv ∧ StrRow w' W.heap.size sv l ∧ Up W w') :
 Calls Tryz.prog 24 #[.agg #[.slice a.TA sc.things.length a.tc, .slice a.PA sc.progs.length a.pc, .slice a.KA sc.picks.length a.kc, .slice a.DA sc.draws.length a.dc]] w (NewQ ObP w sc l) := by
 have HB0 : Hid (BoxS w (w.alloc (.cells (scrA sc a) 27)) (scrA sc a)) := hQ' ⟨Up.refl _⟩
 have HBB := hQ' (fun (wr : World) (h : BoxS w wr (scrA sc a)) => show wr.cell? ⟨w.heap.size, 0, none⟩ = some (.slice a.TA sc.things.length a.tc) ∧ wr.cell? ⟨w.heap.size, 1, none⟩ = some (.slice a.PA sc.progs.length a.pc) ∧ wr.cell? ⟨w.heap.size, 2, none⟩ = some (.slice a.KA sc.picks.length a.kc) ∧ wr.cell? ⟨w.heap.size, 3, none⟩ = some (.slice a.DA sc.draws.length a.dc) from ⟨h.cell 0, h.cell 1, h.cell 2, h.cell 3⟩)
 have HS := hQ' hs
 have HF := hQ' hfine
 have HLY := hQ' hlay
 have HST := hQ' hstr
 have HOB := hQ' hOB
 have HOQ := hQ' hOq
 have HPO := hQ' hpos
 have HN := hQ' (And.intro hn8 (And.intro hd64 (And.intro hl hcnt)))
 obtain ⟨c0, c1, c2, c3⟩ := HBB.out _ HB0.out
 unfold scrA at c0 c1 c2 c3
 have HUB := hQ' HB0.out.w
 unfold scrA at HUB
 clear hs hfine hlay hstr hOB hOq hpos hn8 hd64 hl hcnt
 go_enter Tryz.func24, Tryz.ntmps24
 go_wp2_with fail
 refine (HF.out _ HUB.out).mono ?_
 rintro e w1 ⟨rfl, hu1⟩
 have HB1 := hQ' (HB0.out.go hu1)
 clear hu1 c0 c1 c2 c3 HUB HF
 obtain ⟨c0, c1, c2, c3⟩ := HBB.out _ HB1.out
 go_wp2_with fail
 refine (HLY.out _ HB1.out.w).mono ?_
 rintro e w2 ⟨ov, rfl, hob, hu2⟩
 have HB2 := hQ' (HB1.out.go hu2)
 obtain ⟨oq, on, oc, rfl, hoq⟩ := HOQ.out _ _ hob
 have HO2 := hQ' hob
 have HQ2 := hQ' hoq
 clear hu2 c0 c1 c2 c3 hob hoq HLY HB1 HOQ
 go_wp2_with fail
 refine (HST.out _ _ HO2.out).mono ?_
 rintro e w3 ⟨sv, rfl, hsv, hu3⟩
 obtain ⟨As, cs, rfl, hat⟩ := hsv.at'
 have HNW := hQ' (newM_any l As cs w3 (by have := HN.out.2.2.1; omega) hat)
 have HU3 := hQ' hu3
 clear hu3 hsv hat HST
 go_wp2_with fail
 refine HNW.out.mono ?_
 intro e w4 h4
 unfold NewM at h4
 rw [if_neg (by rw [HN.out.2.2.2]; simp)] at h4
 obtain ⟨h, X, rfl, hbk, hu4⟩ := h4
 have HBK := hQ' hbk
 have HU4 := hQ' hu4
 have HB4 := hQ' (HB2.out.go (HU3.out.trans hu4))
 clear hbk hu4 HNW
 obtain ⟨c0, c1, c2, c3⟩ := HBB.out _ HB4.out
 have HCL := hQ' (clone_any sc.draws a.DA a.dc w4 (HS.out.up HB4.out.w).dn.1 (HS.out.up HB4.out.w).dr (by have := HN.out.2.1; omega))
 go_wp2_with fail
 refine HCL.out.mono ?_
 rintro e w5 ⟨dv, rfl, hdv, hu5⟩
 have HB5 := hQ' (HB4.out.go hu5)
 obtain ⟨Ad, cd, rfl, hcd, _⟩ := own_form hdv
 have HDV := hQ' hdv
 have HU5 := hQ' hu5
 clear hu5 hdv hcd c0 c1 c2 c3 HCL
 have hbw := heap_alloc_new w5 (.cells #[.slice (some ⟨oq, 0, none⟩) on oc, .pointer (some ⟨h, 0, none⟩), .slice none 0 0, .slice Ad sc.draws.length cd, .int .i64 0, .int .i64 0] 108)
 have hu6 := (Up.refl w5).alloc (.cells #[.slice (some ⟨oq, 0, none⟩) on oc, .pointer (some ⟨h, 0, none⟩), .slice none 0 0, .slice Ad sc.draws.length cd, .int .i64 0, .int .i64 0] 108)
 obtain ⟨W1, hW1⟩ : ∃ x, w5.alloc (.cells #[.slice (some ⟨oq, 0, none⟩) on oc, .pointer (some ⟨h, 0, none⟩), .slice none 0 0, .slice Ad sc.draws.length cd, .int .i64 0, .int .i64 0] 108) = x := ⟨_, rfl⟩
 obtain ⟨b, hb⟩ : ∃ x, w5.heap.size = x := ⟨_, rfl⟩
 have hsz : W1.heap.size = b + 1 := by rw [← hW1, ← hb]; exact World.size_alloc _ _
 rw [hW1] at hbw hu6
 rw [hb] at hbw
 have HB6 := hQ' (HB5.out.go hu6)
 have HBW := hQ' hbw
 have HU6 := hQ' hu6
 have HBS := hQ' (And.intro hb hsz)
 obtain ⟨c0, c1, c2, c3⟩ := HBB.out _ HB6.out
 go_upto_region 10 with fail
 obtain ⟨pn, hpn⟩ : ∃ N, sc.progs.length = N := ⟨_, rfl⟩
 have HPN := hQ' hpn
 rw [hpn] at c1
 have HT0 := hQ' (show NewT W1 W1 b h (.slice (some ⟨oq, 0, none⟩) on oc) (.slice Ad sc.draws.length cd) sc.progs (.slice none 0 0) [] from ⟨Below.refl _ _, HBW.out, own_nil _ _ _ _, fun i hi => by simp at hi⟩)
 obtain ⟨i0, hi', hz0, hz1, hz2⟩ := info_parts infoThr
 have HIE := hQ' hi'
 have HZ0 := hQ' hz0
 have HZ1 := hQ' hz1
 have HZ2 := hQ' hz2
 clear hi' hz0 hz1 hz2 hbw hu6 hb hsz hW1
 simp only [hpn]
 clear hpn
 go_wp2_with fail
 go_loopw [44] (fun iv wr => ∃ i : Nat, i ≤ pn ∧ iv = .int .i64 i ∧ Hid (∃ tv pvs, pvs.length = i ∧ NewT W1 wr b h (.slice (some ⟨oq, 0, none⟩) on oc) (.slice Ad sc.draws.length cd) sc.progs tv pvs)) (fun iv _ => pn - (intOf iv).toNat)
 case atStart => exact ⟨0, by omega, rfl, hQ' ⟨_, _, rfl, HT0.out⟩⟩
 case round =>
  obtain ⟨i, hi, rfl, HH⟩ := hrel
  obtain ⟨tv, pvs, hpl, hT⟩ := HH.out
  have HT := hQ' hT
  clear HH
  by_cases hlt : i < pn
  · have hii : (i : Int) < pn := by omega
    have hi0 : (0 : Int) ≤ i := by omega
    have hib : (i : Int) ≤ 8 := by have := HN.out.1; have := HPN.out; omega
    have HUW := hQ' (show Up w wr from Below.trans HB6.out.w (Below.mono HT.out.below (by have := HB5.out.w.size; have := HBS.out; omega)))
    obtain ⟨pb, poff, A', c', eP, p0, p1, p2, p3, p4⟩ := (HS.out.up HUW.out).pr i (by rw [HPN.out]; exact hlt)
    have HPI := hQ' (HPO.out i (by rw [HPN.out]; exact hlt))
    obtain ⟨b2, off2, eC, -⟩ := p1 0 HPI.out
    rw [eC] at p0 p1
    have HCL := hQ' (fun (W : World) (u : Up wr W) => cloneC_any (sc.progs.getD i []) b2 off2 c' W HPI.out (by omega) (p1.up u))
    have HLT := hQ' (And.intro hlt hpl)
    obtain ⟨At, ct, rfl, hct, _⟩ := own_form hT.row
    have HTV := hQ' HT.out
    have hcell : wr.cell? ⟨b, 2, none⟩ = some (.slice At pvs.length ct) := blk_cells HT.out.blk 2
    have HBL := hQ' (cell_lt hcell)
    have HBU := hQ' (fun (W : World) (u : Up wr W) => (u.cell HBL.out).trans hcell)
    have HBZ := hQ' (show b + 1 ≤ wr.heap.size from HBL.out)
    obtain ⟨m, hm⟩ : ∃ m, (sc.progs.getD i []).length = m := ⟨_, rfl⟩
    have HM := hQ' hm
    rw [hm] at p0 p2 HCL
    rw [eP]
    clear hT hct p1 p2 p3 p4 hcell hi hpl
    go_upto_region 13 with fail
    clear p0
    have hT0 : True := trivial
    refine wp_region_held_drew (S := fun W => True) (by kernel_rfl) hT0 (fun hS0 => ?_)
    refine tkE 0 ?_ rfl (by kernel_rfl) (fun _ _ _ h => h) hS0 ?_ ?_
    rotate_left
    · intro w hSw
      try dsimp only at hSw
      go_simp
      try (with_reducible rfl)
    try simp only [Act.put, sC_I, sC_0, sC_1]
    refine tkE 1 ?_ rfl (by kernel_rfl) (fun _ _ _ h => h) hS0 ?_ ?_
    rotate_left
    · intro w hSw
      try dsimp only at hSw
      go_simp
      try (with_reducible rfl)
    try simp only [Act.put, sC_I, sC_0, sC_1]
    refine tkE 2 ?_ rfl (by kernel_rfl) (fun _ _ _ h => h) hS0 ?_ ?_
    rotate_left
    · intro w hSw
      try dsimp only at hSw
      go_simp
      try (with_reducible rfl)
    try simp only [Act.put, sC_I, sC_0, sC_1]
    refine tkE 3 ?_ rfl (by kernel_rfl) (fun _ _ _ h => h) hS0 ?_ ?_
    rotate_left
    · intro w hSw
      try dsimp only at hSw
      go_simp
      try (with_reducible rfl)
    try simp only [Act.put, sC_I, sC_0, sC_1]
    refine tkE 5 ?_ rfl (by kernel_rfl) (fun _ _ _ h => h) hS0 ?_ ?_
    rotate_left
    · intro w hSw
      try dsimp only at hSw
      go_simp
      try (with_reducible rfl)
    try simp only [Act.put, sC_I, sC_0, sC_1]
    refine wpAnyH_ready (rs := [4, 6]) (by kernel_rfl) (by simp) ?_
    refine AllReadyH.cons rfl (fun K hK => ?_) (AllReadyH.cons rfl (fun K hK => ?_) AllReadyH.nil)
    · have kk := HBU.out _ (Up.refl wr).drew
      go_simp
      clear kk
      refine hK.out _ _ trivial (fun hS1 => ?_)
      clear hK K
      try simp only [Act.put, sC_I, sC_0, sC_1]
      refine rdE 6 (by kernel_rfl) rfl fun K hK => ?_
      go_simp
      refine (HCL.out _ (Up.refl wr).drew).mono ?_
      rintro e wc ⟨pv, rfl, hpv, huc⟩
      obtain ⟨Ap, cp, hpe, _, _⟩ := own_form hpv
      rw [HM.out] at hpe
      subst hpe
      have HPV := hQ' hpv
      have HUC := hQ' huc
      clear huc hpv
      refine hK.out _ _ trivial (fun hS2 => ?_)
      clear hK K
      try simp only [Act.put, sC_I, sC_0, sC_1]
      refine tkE 7 ?_ rfl (by kernel_rfl) (fun _ _ _ h => h) hS2 ?_ ?_
      rotate_left
      · intro w hSw
        try dsimp only at hSw
        go_simp
        try (with_reducible rfl)
      try simp only [Act.put, sC_I, sC_0, sC_1]
      refine rdE 8 (by kernel_rfl) rfl fun K hK => ?_
      go_simp
      refine hK.out _ _ trivial (fun hS3 => ?_)
      clear hK K
      try simp only [Act.put, sC_I, sC_0, sC_1]
      refine rdE 9 (by kernel_rfl) rfl fun K hK => ?_
      refine step_append_lies _ rfl (.tmp 52) (.tmp 56) 106 rfl (b + 1) 113 i0 (.agg #[.slice none 0 0, .int .i64 0, .slice none 0 0, .slice none 0 0, .int .i64 0, .int .i64 0, .int .i64 0, .int .i64 0, .int .i64 0, .int .i64 0, .bool false]) 11 136 Tryz.underlying106 HIE.out HZ0.out HZ1.out HZ2.out rfl (by decide) (.slice At pvs.length ct) pvs.length (pvs.flatMap thL) rfl (own_same HTV.out.row fun k e => (((Up.refl wr).drew.trans HUC.out).trans ((Up.refl wc).alloc _)).block k (HTV.out.row.lt k e).2) ⟨wc.heap.size, 0, none⟩ 1 1 (thL (.slice Ap m cp)) rfl rfl (fun j u h => cells_new wc _ _ j u h) (by simp [thL, Value.oneCell']) (by decide) (by have := HLT.out.2; unfold maxLen; omega) (by have := HLT.out.2; omega) (by have := HBZ.out; have := HUC.out.size; simp at this ⊢; omega) _ rfl ?_
      intro g5 cap5 w5 hown5 hg5 hat5 hlt5
      have HTN := hQ' (HTV.out.push HUC.out (by rw [HLT.out.2]; exact HPV.out) hown5 hg5 hat5)
      have hb5 : w5.heap[b]? = wr.heap[b]? := (hg5.block b (by have := HBZ.out; have := HUC.out.size; simp at this ⊢; omega) (fun e => by have := (HTV.out.row.lt b e.symm).1; omega)).trans ((((Up.refl wr).drew.trans HUC.out).trans ((Up.refl wc).alloc _)).block b HBL.out)
      have k2 : w5.cell? ⟨b, 2, none⟩ = some (.slice At pvs.length ct) := blk_cells (hb5.trans HTV.out.blk) 2
      have f2 : w5.frozen? ⟨b, 2, none⟩ = false := blk_frozen (hb5.trans HTV.out.blk) 2
      clear hown5 hg5 hat5 hlt5 hb5
      refine hK.out _ _ trivial (fun hS8 => ?_)
      clear hK K
      try simp only [Act.put, sC_I, sC_0, sC_1]
      refine tkE 10 ?_ rfl (by kernel_rfl) (fun _ _ _ h => h) hS8 ?_ ?_
      rotate_left
      · intro w hSw
        try dsimp only at hSw
        go_simp
        try (with_reducible rfl)
      try simp only [Act.put, sC_I, sC_0, sC_1]
      refine tkE 11 ?_ rfl (by kernel_rfl) (fun _ _ _ h => h) hS8 ?_ ?_
      rotate_left
      · intro w hSw
        try dsimp only at hSw
        go_simp
        try (with_reducible rfl)
      try simp only [Act.put, sC_I, sC_0, sC_1]
      refine rdE 12 (by kernel_rfl) rfl fun K hK => ?_
      go_simp
      refine hK.out _ _ trivial (fun hS9 => ?_)
      clear hK K
      try simp only [Act.put, sC_I, sC_0, sC_1]
      refine wpAnyH_done (by kernel_rfl) ?_ _
      try simp only [Act.put, sC_I, sC_0, sC_1, List.getElem_toArray, List.getElem_cons_succ, List.getElem_cons_zero]
      go_wp2_with fail
      go_roundw
      case rel => exact ⟨i + 1, HLT.out.1, by first | rfl | go_num, hQ' ⟨_, _, by rw [List.length_append, HLT.out.2]; rfl, HTN.out⟩⟩
      case measure => have := HLT.out.1; simp [intOf]; omega
    · go_simp
      refine (HCL.out _ (Up.refl wr).drew).mono ?_
      rintro e wc ⟨pv, rfl, hpv, huc⟩
      obtain ⟨Ap, cp, hpe, _, _⟩ := own_form hpv
      rw [HM.out] at hpe
      subst hpe
      have HPV := hQ' hpv
      have HUC := hQ' huc
      clear huc hpv
      refine hK.out _ _ trivial (fun hS1 => ?_)
      clear hK K
      try simp only [Act.put, sC_I, sC_0, sC_1]
      refine tkE 7 ?_ rfl (by kernel_rfl) (fun _ _ _ h => h) hS1 ?_ ?_
      rotate_left
      · intro w hSw
        try dsimp only at hSw
        go_simp
        try (with_reducible rfl)
      try simp only [Act.put, sC_I, sC_0, sC_1]
      refine wpAnyH_ready (rs := [4, 8]) (by kernel_rfl) (by simp) ?_
      refine AllReadyH.cons rfl (fun K hK => ?_) (AllReadyH.cons rfl (fun K hK => ?_) AllReadyH.nil)
      · have kk := HBU.out _ ((Up.refl wr).drew.trans HUC.out)
        go_simp
        clear kk
        refine hK.out _ _ trivial (fun hS2 => ?_)
        clear hK K
        try simp only [Act.put, sC_I, sC_0, sC_1]
        refine rdE 8 (by kernel_rfl) rfl fun K hK => ?_
        go_simp
        refine hK.out _ _ trivial (fun hS3 => ?_)
        clear hK K
        try simp only [Act.put, sC_I, sC_0, sC_1]
        refine rdE 9 (by kernel_rfl) rfl fun K hK => ?_
        refine step_append_lies _ rfl (.tmp 52) (.tmp 56) 106 rfl (b + 1) 113 i0 (.agg #[.slice none 0 0, .int .i64 0, .slice none 0 0, .slice none 0 0, .int .i64 0, .int .i64 0, .int .i64 0, .int .i64 0, .int .i64 0, .int .i64 0, .bool false]) 11 136 Tryz.underlying106 HIE.out HZ0.out HZ1.out HZ2.out rfl (by decide) (.slice At pvs.length ct) pvs.length (pvs.flatMap thL) rfl (own_same HTV.out.row fun k e => (((Up.refl wr).drew.trans HUC.out).trans ((Up.refl wc).alloc _)).block k (HTV.out.row.lt k e).2) ⟨wc.heap.size, 0, none⟩ 1 1 (thL (.slice Ap m cp)) rfl rfl (fun j u h => cells_new wc _ _ j u h) (by simp [thL, Value.oneCell']) (by decide) (by have := HLT.out.2; unfold maxLen; omega) (by have := HLT.out.2; omega) (by have := HBZ.out; have := HUC.out.size; simp at this ⊢; omega) _ rfl ?_
        intro g5 cap5 w5 hown5 hg5 hat5 hlt5
        have HTN := hQ' (HTV.out.push HUC.out (by rw [HLT.out.2]; exact HPV.out) hown5 hg5 hat5)
        have hb5 : w5.heap[b]? = wr.heap[b]? := (hg5.block b (by have := HBZ.out; have := HUC.out.size; simp at this ⊢; omega) (fun e => by have := (HTV.out.row.lt b e.symm).1; omega)).trans ((((Up.refl wr).drew.trans HUC.out).trans ((Up.refl wc).alloc _)).block b HBL.out)
        have k2 : w5.cell? ⟨b, 2, none⟩ = some (.slice At pvs.length ct) := blk_cells (hb5.trans HTV.out.blk) 2
        have f2 : w5.frozen? ⟨b, 2, none⟩ = false := blk_frozen (hb5.trans HTV.out.blk) 2
        clear hown5 hg5 hat5 hlt5 hb5
        refine hK.out _ _ trivial (fun hS8 => ?_)
        clear hK K
        try simp only [Act.put, sC_I, sC_0, sC_1]
        refine tkE 10 ?_ rfl (by kernel_rfl) (fun _ _ _ h => h) hS8 ?_ ?_
        rotate_left
        · intro w hSw
          try dsimp only at hSw
          go_simp
          try (with_reducible rfl)
        try simp only [Act.put, sC_I, sC_0, sC_1]
        refine tkE 11 ?_ rfl (by kernel_rfl) (fun _ _ _ h => h) hS8 ?_ ?_
        rotate_left
        · intro w hSw
          try dsimp only at hSw
          go_simp
          try (with_reducible rfl)
        try simp only [Act.put, sC_I, sC_0, sC_1]
        refine rdE 12 (by kernel_rfl) rfl fun K hK => ?_
        go_simp
        refine hK.out _ _ trivial (fun hS9 => ?_)
        clear hK K
        try simp only [Act.put, sC_I, sC_0, sC_1]
        refine wpAnyH_done (by kernel_rfl) ?_ _
        try simp only [Act.put, sC_I, sC_0, sC_1, List.getElem_toArray, List.getElem_cons_succ, List.getElem_cons_zero]
        go_wp2_with fail
        go_roundw
        case rel => exact ⟨i + 1, HLT.out.1, by first | rfl | go_num, hQ' ⟨_, _, by rw [List.length_append, HLT.out.2]; rfl, HTN.out⟩⟩
        case measure => have := HLT.out.1; simp [intOf]; omega
      · go_simp
        refine hK.out _ _ trivial (fun hS2 => ?_)
        clear hK K
        try simp only [Act.put, sC_I, sC_0, sC_1]
        refine rdE 4 (by kernel_rfl) rfl fun K hK => ?_
        have kk := HBU.out _ (((Up.refl wr).drew.trans HUC.out).trans ((Up.refl wc).alloc (.cells #[.slice Ap m cp, .int .i64 0, .slice none 0 0, .slice none 0 0, .int .i64 0, .int .i64 0, .int .i64 0, .int .i64 0, .int .i64 0, .int .i64 0, .bool false] 113)))
        go_simp
        clear kk
        refine hK.out _ _ trivial (fun hS3 => ?_)
        clear hK K
        try simp only [Act.put, sC_I, sC_0, sC_1]
        refine rdE 9 (by kernel_rfl) rfl fun K hK => ?_
        refine step_append_lies _ rfl (.tmp 52) (.tmp 56) 106 rfl (b + 1) 113 i0 (.agg #[.slice none 0 0, .int .i64 0, .slice none 0 0, .slice none 0 0, .int .i64 0, .int .i64 0, .int .i64 0, .int .i64 0, .int .i64 0, .int .i64 0, .bool false]) 11 136 Tryz.underlying106 HIE.out HZ0.out HZ1.out HZ2.out rfl (by decide) (.slice At pvs.length ct) pvs.length (pvs.flatMap thL) rfl (own_same HTV.out.row fun k e => (((Up.refl wr).drew.trans HUC.out).trans ((Up.refl wc).alloc _)).block k (HTV.out.row.lt k e).2) ⟨wc.heap.size, 0, none⟩ 1 1 (thL (.slice Ap m cp)) rfl rfl (fun j u h => cells_new wc _ _ j u h) (by simp [thL, Value.oneCell']) (by decide) (by have := HLT.out.2; unfold maxLen; omega) (by have := HLT.out.2; omega) (by have := HBZ.out; have := HUC.out.size; simp at this ⊢; omega) _ rfl ?_
        intro g5 cap5 w5 hown5 hg5 hat5 hlt5
        have HTN := hQ' (HTV.out.push HUC.out (by rw [HLT.out.2]; exact HPV.out) hown5 hg5 hat5)
        have hb5 : w5.heap[b]? = wr.heap[b]? := (hg5.block b (by have := HBZ.out; have := HUC.out.size; simp at this ⊢; omega) (fun e => by have := (HTV.out.row.lt b e.symm).1; omega)).trans ((((Up.refl wr).drew.trans HUC.out).trans ((Up.refl wc).alloc _)).block b HBL.out)
        have k2 : w5.cell? ⟨b, 2, none⟩ = some (.slice At pvs.length ct) := blk_cells (hb5.trans HTV.out.blk) 2
        have f2 : w5.frozen? ⟨b, 2, none⟩ = false := blk_frozen (hb5.trans HTV.out.blk) 2
        clear hown5 hg5 hat5 hlt5 hb5
        refine hK.out _ _ trivial (fun hS8 => ?_)
        clear hK K
        try simp only [Act.put, sC_I, sC_0, sC_1]
        refine tkE 10 ?_ rfl (by kernel_rfl) (fun _ _ _ h => h) hS8 ?_ ?_
        rotate_left
        · intro w hSw
          try dsimp only at hSw
          go_simp
          try (with_reducible rfl)
        try simp only [Act.put, sC_I, sC_0, sC_1]
        refine tkE 11 ?_ rfl (by kernel_rfl) (fun _ _ _ h => h) hS8 ?_ ?_
        rotate_left
        · intro w hSw
          try dsimp only at hSw
          go_simp
          try (with_reducible rfl)
        try simp only [Act.put, sC_I, sC_0, sC_1]
        refine rdE 12 (by kernel_rfl) rfl fun K hK => ?_
        go_simp
        refine hK.out _ _ trivial (fun hS9 => ?_)
        clear hK K
        try simp only [Act.put, sC_I, sC_0, sC_1]
        refine wpAnyH_done (by kernel_rfl) ?_ _
        try simp only [Act.put, sC_I, sC_0, sC_1, List.getElem_toArray, List.getElem_cons_succ, List.getElem_cons_zero]
        go_wp2_with fail
        go_roundw
        case rel => exact ⟨i + 1, HLT.out.1, by first | rfl | go_num, hQ' ⟨_, _, by rw [List.length_append, HLT.out.2]; rfl, HTN.out⟩⟩
        case measure => have := HLT.out.1; simp [intOf]; omega
  · have hie : i = pn := by omega
    subst hie
    have hnl : ¬ ((i : Int) < i) := by omega
    have hb := HBS.out.1
    have h45 := HU5.out.size
    have h34 := HU4.out.size
    have h23 := HU3.out.size
    have h12 := HB2.out.w.size
    have HUB := hQ' (fun (k : Nat) (hk : k < b) => show wr.heap[k]? = w5.heap[k]? from (HT.out.below.block k hk).trans (HU6.out.block k (by omega)))
    have HUW := hQ' (fun (W : World) (u : Up W w5) => show Up W wr from Below.trans (u.trans HU6.out) (Below.mono HT.out.below (by have := u.size; omega)))
    have HFI : Hid (NewP ObP w wr sc l b h w3.heap.size X (.slice (some ⟨oq, 0, none⟩) on oc) (.slice Ad sc.draws.length cd) tv pvs) := hQ'
     { up := HUW.out w HB5.out.w
       Bw := by omega
       Bb := by omega
       bank := HBK.out.keep ((HU5.out.trans (HUW.out w5 (Up.refl _))).size) fun k hx => (HUB.out k (by have := (HBK.out.lt k hx).2; omega)).trans (HU5.out.block k (HBK.out.lt k hx).2)
       xlt := fun k hx => by have := (HBK.out.lt k hx).2; omega
       ob := HOB.out _ _ _ HO2.out (HUW.out w2 ((HU3.out.trans HU4.out).trans HU5.out))
       oq := fun q n c e => by cases e; have := HQ2.out; omega
       drow := own_same (own_base HDV.out (by omega)) fun k e => HUB.out k (by have := (HDV.out.lt k e).2; omega)
       dq := fun k e => ⟨fun hx => by have h1 := (HBK.out.lt k hx).2; have h2 := (HDV.out.lt k e).1; omega, by have := (HDV.out.lt k e).2; omega⟩
       len := by rw [hpl, HPN.out]
       blk := HT.out.blk
       row := HT.out.row
       pr := HT.out.pr }
    clear HT hT hb h45 h34 h23 h12 HUB HUW
    go_wp2_with fail
    go_ret2
    exact ⟨b, h, _, X, _, _, tv, pvs, rfl, HFI.out⟩
end Go.Proofs.YtpodgcpkccpnfaaGreat

namespace Go.Proofs.YtpodgcpkccpnfaaGreat
open Go.RowKit
def mkZ (B : Nat) (w' : World) (b g h n c1 : Nat) (l : List SD) (ov dv : Value) (pvs : List Value) (M : MD) : WK := ⟨B, w', b, g, h, n, c1, l, ov, dv, fun t => pvs.getD t nilV, M⟩
theorem thL_len (v : Value) : (thL v).length = 11 := rfl
theorem own_frozen {w : World} {B : Nat} {e : TypeId} {s n : Nat} {xs : List Value} {b c m : Nat} (h : w.ownsRow B e s (.slice (some ⟨b, 0, none⟩) m c) n xs) : ∀ j, w.frozen? ⟨b, j, none⟩ = false := fun j => by
 rcases h.2 with ⟨hv, -⟩ | ⟨g, cap, cur, hv, hg, hh, -⟩
 · cases hv
 · cases hv
   exact frozen_of_row _ _ j _ _ hh
theorem row_of_own {w : World} {B : Nat} {l : List Int} {A : Option Addr} {n c : Nat} (h : w.ownsRow B 3 1 (.slice A n c) l.length (icells l)) : Row w A l.length (IVal l) := by
 intro i hi
 rcases h.2 with ⟨hv, e0⟩ | ⟨g, cap, cur, hv, hg, hh, hcap, hmax, hsz2, hcells⟩
 · omega
 · cases hv
   refine ⟨g, 0, rfl, ?_⟩
   rw [Nat.zero_add, cell_of_row w g i _ _ _ hh]
   have h2 := iVal_map (l := l) hi
   have h3 : (cur.toList.take (l.length * 1))[i]? = some (IVal l i) := by rw [hcells]; exact h2
   rw [List.getElem?_take, if_pos (by omega)] at h3
   simpa using h3
theorem new_lies {ObP : World → Value → Prop} {w w' : World} {sc : ScD} {l : List SD} {b h B : Nat} {X : Nat → Prop} {ov dv tv : Value} {pvs : List Value} (H : NewP ObP w w' sc l b h B X ov dv tv pvs)
 (hn1 : 1 ≤ sc.progs.length) (hn8 : sc.progs.length ≤ 8) (hpos : ∀ i, i < sc.progs.length → 0 < (sc.progs.getD i []).length) (hpl : ∀ i, i < sc.progs.length → (sc.progs.getD i []).length ≤ 1000000)
 (hd : sc.draws.length ≤ 64) (hfit : Fit l) (M : MD) (hM : M.many = cntK l l.length) (hF : M.fresh = mkP l) (hD : M.draws = sc.draws) (hov : ∃ q n c, ov = .slice (some ⟨q, 0, none⟩) n c) :
 ∃ g c1 ow, tv = .slice (some ⟨g, 0, none⟩) sc.progs.length c1 ∧ b + 1 ≤ g ∧
  Wd (mkZ B w' b g h sc.progs.length c1 l ov dv pvs M) w' (startW sc.progs) 0 (fun _ => nilV) (fun _ => nilV) ow ∧
  Lies (mkZ B w' b g h sc.progs.length c1 l ov dv pvs M) sc.progs (fun k => k < w'.heap.size ∧ ow k = 0) ∧ (∀ k, k < B → ow k = 0) := by
 obtain ⟨g, c1, htv, hgb, -⟩ := own_flat (i := 0) nilV H.row thL_len (by rw [H.len]; omega)
 have hcg : ∀ t, t < sc.progs.length → ∀ j, j < 11 → w'.cell? ⟨g, t * 11 + j, none⟩ = (thL (pvs.getD t nilV))[j]? := fun t ht j hj => by
  obtain ⟨g2, c2, e2, _, h3⟩ := own_flat (i := t) nilV H.row thL_len (by rw [H.len]; exact ht)
  rw [htv] at e2; cases e2
  have := h3 j hj
  rwa [Nat.zero_add] at this
 rw [H.len] at htv
 subst htv
 have hgl := (H.row.lt g rfl).2
 have hfg := own_frozen H.row
 have hbl := (Array.getElem?_eq_some_iff.1 H.blk).1
 classical
 obtain ⟨ow, how⟩ : ∃ ow : Nat → Nat, ow = fun k => if k = b then 1 else if k = g then 2 else if X k then 3 else 0 := ⟨_, rfl⟩
 have hX := H.bank.lt
 have o1 : ow b = 1 := by rw [how]; simp
 have o2 : ow g = 2 := by rw [how]; show (if g = b then 1 else if g = g then 2 else _) = 2; rw [if_neg (by omega), if_pos rfl]
 have o3 : ∀ k, ow k = 3 ↔ X k := fun k => by
  rw [how]; simp only
  by_cases e1 : k = b
  · rw [if_pos e1]; refine ⟨fun h => (by cases h), fun h => (by have := H.xlt k h; omega)⟩
  rw [if_neg e1]
  by_cases e2 : k = g
  · rw [if_pos e2]; refine ⟨fun h => (by cases h), fun h => (by have := H.xlt k h; omega)⟩
  rw [if_neg e2]
  by_cases e3 : X k
  · rw [if_pos e3]; exact ⟨fun _ => e3, fun _ => rfl⟩
  · rw [if_neg e3]; exact ⟨fun h => (by cases h), fun h => absurd h e3⟩
 have o0 : ∀ k, ow k ≠ 0 → k = b ∨ k = g ∨ X k := fun k hk => by
  rw [how] at hk; simp only at hk
  by_cases e1 : k = b
  · exact .inl e1
  rw [if_neg e1] at hk
  by_cases e2 : k = g
  · exact .inr (.inl e2)
  rw [if_neg e2] at hk
  by_cases e3 : X k
  · exact .inr (.inr e3)
  · rw [if_neg e3] at hk; exact absurd rfl hk
 have oB : ∀ k, ow k ≠ 0 → B ≤ k ∧ k < w'.heap.size := fun k hk => by
  rcases o0 k hk with rfl | rfl | h
  · exact ⟨H.Bb, hbl⟩
  · exact ⟨by have := H.Bb; omega, hgl⟩
  · exact hX k h
 have o0' : ∀ k, k < b + 1 → k ≠ b → ¬ X k → ow k = 0 := fun k h1 h2 h3 => by
  rw [how]; simp only; rw [if_neg h2, if_neg (by omega), if_neg h3]
 have hXe : X = fun k => ow k = 3 := by funext k; exact propext (o3 k).symm
 refine ⟨g, c1, ow, rfl, hgb, ?_, ?_, fun k hk => ?_⟩
 · refine { n := rfl, up := Below.refl _ _, Bw := (by show B ≤ w'.heap.size; have := H.Bb; omega), ro := fun k _ _ => rfl, own := oB, ob := o1, og := o2, cb := fun j hj => ?_, fb := fun j => blk_frozen H.blk j, cg := fun t ht => ⟨fun j hj => ?_⟩, fg := hfg, ra := fun t ht => own_nil _ _ _ _, rl := fun t ht => own_nil _ _ _ _, oa := fun t k _ e => by simp [nilV, Value.ownBlock] at e, ol := fun t k _ e => by simp [nilV, Value.ownBlock] at e, bk := ?_ }
   · show w'.cell? ⟨b, j, none⟩ = _
     rw [blk_cells H.blk j]
     match j, hj with
     | 0, _ | 1, _ | 2, _ | 3, _ | 4, _ | 5, _ => rfl
   · show w'.cell? ⟨g, t * 11 + j, none⟩ = _
     rw [hcg t ht j hj]
     match j, hj with
     | 0, _ | 1, _ | 2, _ | 3, _ | 4, _ | 5, _ | 6, _ | 7, _ | 8, _ | 9, _ | 10, _ => rfl
   · show BankM w' B h l bs0 0 (fun k => ow k = 3)
     rw [← hXe]; exact H.bank
 · refine { z := ⟨hn8, ?_, hfit, hM, hF⟩, n := rfl, st := fun k hk => hk.1, ov := ?_, pr := fun t ht => ?_, dr := ?_, ds := fun A l2 c b2 off e1 e2 hl2 => ?_ }
   · obtain ⟨A, c, e, h1, h2⟩ := own_form H.row
     rw [H.len] at e h1
     cases e
     exact ⟨h1, h2⟩
   · obtain ⟨q, n, c, rfl⟩ := hov
     exact ⟨_, _, _, rfl⟩
   · have ht : t < sc.progs.length := ht
     obtain ⟨h1, h2⟩ := H.pr t (by rw [H.len]; exact ht)
     obtain ⟨pb, pc, e, hq, hlt, hle, hat⟩ := h1.at' (hpos t ht)
     obtain ⟨A2, c2, e2, hc2, hm2⟩ := own_form h1
     rw [e] at e2; cases e2
     refine ⟨_, pc, e, hle, hpl t ht, by have := hm2; omega, hat, fun b3 off e3 _ => ?_⟩
     cases e3
     refine ⟨hlt, ?_⟩
     rcases Classical.em (ow pb = 0) with h | h
     · exact h
     · rcases o0 pb h with h4 | h4 | h4
       · omega
       · exact absurd (show Value.ownBlock (.slice (some ⟨g, 0, none⟩) sc.progs.length c1) = some pb by rw [h4]; rfl) (h2 pb (by rw [e]; rfl))
       · have := H.xlt pb h4; omega
   · refine ⟨by show M.draws.length ≤ 64; rw [hD]; exact hd, ?_⟩
     obtain ⟨A, c, e, h1, h2⟩ := own_form H.drow
     subst e
     refine ⟨A, c, by show Value.slice A sc.draws.length c = .slice A M.draws.length c; rw [hD], ?_, own_nil0 H.drow, by show M.draws.length ≤ c; rw [hD]; exact h1, by have := h2; omega⟩
     show Row w' A M.draws.length (IVal M.draws)
     rw [hD]
     exact row_of_own H.drow
   · have e1 : dv = .slice A l2 c := e1
     subst e1
     subst e2
     obtain ⟨h3, h4⟩ := H.dq b2 rfl
     exact ⟨by show b2 < w'.heap.size; omega, o0' b2 (by omega) (by omega) h3⟩
 · rcases Classical.em (ow k = 0) with h | h
   · exact h
   · have := (oB k h).1; omega
end Go.Proofs.YtpodgcpkccpnfaaGreat

namespace Go.Proofs.YtpodgcpkccpnfaaGreat
open Go.RowKit
theorem step_appendOwn {P : Program} {ops : Array Oper} {o : Oper} {a : Act} {K : Act → World → Prop} {Q : Exit → Act → World → Prop} {E : Prop} {w : World} (hgd : o.guard = none) (s x : Operand) (t : TypeId)
 (ho : o.op = .call { callee := .builtin .append, args := #[s, x], argTypes := #[t, t] })
 (B : Nat) (e : TypeId) (i : TypeInfo) (z : Value) (size bytes : Nat) (ht : P.underlying t = some (.slice e)) (hi : P.info? e = some i) (hz : i.zero = some z)
 (hsize : i.size = size) (hby : i.bytes = bytes) (hzs : z.cells.size = size) (hsz : 0 < size)
 (v : Value) (n : Nat) (xs : List Value) (hs : a.eval s = v) (hown : w.ownsRow B e size v n xs)
 (B2 : Nat) (v2 : Value) (m : Nat) (ys : List Value) (hx : a.eval x = v2) (hown2 : w.ownsRow B2 e size v2 m ys) (h1 : ∀ u ∈ ys, u.oneCell' = true)
 (hb1 : 0 < bytes) (hbytes : (n + m) * bytes ≤ 140737488355328) (hB : B ≤ w.heap.size)
 (h : ∀ v' w', w'.ownsRow B e size v' (n + m) (xs ++ ys) → w.grownBy w' v.ownBlock → Below B w w' → (v'.ownBlock = v.ownBlock ∨ v'.ownBlock = some w.heap.size) → K (a.put o.dst v') w') :
 if Region.wanted o (yielded ops a.tmps) = true then Oper.wp P o a w K Q else E := by
 have hw : Region.wanted o (yielded ops a.tmps) = true := by simp [Region.wanted, hgd]
 rw [if_pos hw]
 have h63 : n + m ≤ maxLen := by
  have : n + m ≤ (n + m) * bytes := Nat.le_mul_of_pos_right _ hb1
  unfold maxLen; omega
 rcases hown2.2 with ⟨rfl, rfl⟩ | ⟨g, cap, cur, rfl, hg, hh, hcap, hmax, hsz2, hcells⟩
 · have hys : ys = [] := List.eq_nil_of_length_eq_zero (by have := hown2.1; omega)
   subst hys
   have hrun := run_append_owned_none (P := P) (w := w) B t o.type e i size ht hi v n xs hown
   unfold Oper.wp
   simp [execOp, ho, resolve, invoke, builtin, hs, hx, hrun, Result.andThen]
   exact h v w (by simpa using hown) (World.grownBy.refl w _) (Below.refl _ _) (.inl rfl)
 · obtain ⟨v', w', hr, h2, h3, h4, h5⟩ := run_append_own_at (P := P) w B t o.type e i z size bytes ht hi hz hsize hby hzs hsz v n xs hown ⟨g, 0, none⟩ m cap ys hown2.1 (by
    intro j u hu
    rw [Go.WideShapes.add_plain, Nat.zero_add, cell_of_row w g j _ _ _ hh]
    rw [← hcells, List.getElem?_take] at hu
    split at hu
    · simpa using hu
    · cases hu) h1 h63 hbytes hB
   unfold Oper.wp execOp
   simp only [ho, resolve, invoke, builtin, Sem.run_bind, Sem.run_pure, Result.andThen_ok, List.map_toArray, List.map_cons, List.map_nil, hs, hx, hr]
   exact h v' w' h2 h3 (grownBy_below h3 hB (own_ge hown)) h5
theorem pickE_len {M : MD} {progs : List (List CD)} {k : Nat} {S : WD} (hF : FewOK M progs) (F : Fits M progs k S) (t : Nat) (hk : k + 2 ≤ 4999) (hx : t < S.n → (S.ths t).st = 2 → SmallX (S.bank.endA M.fresh t (drawV M t S.tick)).1) : (pickE M t S).length ≤ 2001 := by
 have hp : ∀ k' S', Fits M progs k' S' → k' ≤ 4999 → ∀ t, t < S'.n → (S'.ths t).next < (S'.ths t).prog.length → (playE M t S').length ≤ 2000 := fun k' S' F' hk' t ht hn => by
  obtain ⟨a1, -⟩ := play_lens hF F' ht hn hk'
  unfold playE
  rw [List.length_append, List.length_map, List.length_drop]
  rcases hr : playO M t (S'.ths t) with ⟨_ | _, s'⟩
  · rw [hr] at a1; simp at a1 ⊢; omega
  · rw [hr] at a1; simp only [List.length_singleton] at a1 ⊢; omega
 unfold pickE
 split
 · simp
 rename_i h1
 have ht : t < S.n := by omega
 split
 · simp
 split
 · split
   · simp
   · rename_i h4
     have := hp _ _ F.tick (by omega) t ht (by show (S.ths t).next < (S.ths t).prog.length; omega)
     rw [List.length_cons]; omega
 rename_i h3
 have hn := (F.st t ht).resolve_left h3
 split
 · simp
 · rename_i h4
   have hst : (S.ths t).st = 2 := hn.1.resolve_left h4
   have FE : Fits M progs (k + 2) (endS M t S.tick) := F.tick.ends ht hn.2 hst (hx ht hst)
   have e : (endS M t S.tick).ths t = { S.ths t with ans := (S.ths t).ans ++ [(S.tick.bank.endA M.fresh t (drawV M t S.tick)).1], accs := (S.ths t).accs + 1 } := put_same S.tick t _
   have := hp _ _ FE (by omega) t ht (by rw [e]; exact hn.2)
   omega
theorem haltE_len (t : Nat) (S : WD) : (haltE t S).length ≤ 2001 := by
 unfold haltE; split <;> simp
structure RunS (Z : WK) (progs : List (List CD)) (stat : Nat → Prop) (rb : Nat) (X : Nat → Prop) (wX : World) (m : Nat) (wr : World) (S : WD) (evs : List EvD) (lv : Value) : Prop where
 wd : ∃ N va vl ow, Wd Z wr S N va vl ow ∧ N ≤ 9 * m ∧ (∀ j, stat j → ow j = 0) ∧ ow rb = 0 ∧ (∀ j, lv.ownBlock = some j → ow j = 0) ∧ ∀ k, X k → ow k = 0
 fit : Fits Z.M progs m S
 gi : ∃ H, GInv Z.M progs S H
 rbg : Z.w1.heap.size ≤ rb
 blk : wr.heap[rb]? = some (.cells #[lv, .int .i64 0, .slice none 0 0, .slice none 0 0, .slice none 0 0] 32 (0, 0))
 row : EvRow wr (rb + 1) lv evs
 len : evs.length ≤ 2002 * m
 xlt : ∀ k, X k → rb < k ∧ k < wr.heap.size ∧ lv.ownBlock ≠ some k
 kp : ∀ k, X k → wr.heap[k]? = wX.heap[k]?
structure MidS (Z : WK) (progs : List (List CD)) (stat : Nat → Prop) (rb : Nat) (X : Nat → Prop) (wX : World) (m : Nat) (w6 : World) (S' : WD) (evs E : List EvD) (lv v : Value) (q : Nat) : Prop where
 wd : ∃ N va vl ow, Wd Z w6 S' N va vl ow ∧ N ≤ 9 * (m + 1) ∧ (∀ j, stat j → ow j = 0) ∧ ow rb = 0 ∧ (∀ j, lv.ownBlock = some j → ow j = 0) ∧ ∀ k, X k → ow k = 0
 fit : Fits Z.M progs (m + 1) S'
 gi : ∃ H, GInv Z.M progs S' H
 rbg : Z.w1.heap.size ≤ rb
 blk : w6.heap[rb]? = some (.cells #[lv, .int .i64 0, .slice none 0 0, .slice none 0 0, .slice none 0 0] 32 (0, 0))
 row : EvRow w6 (rb + 1) lv evs
 new : EvRow w6 q v E
 len : evs.length ≤ 2002 * m
 len2 : E.length ≤ 2001
 xlt : ∀ k, X k → rb < k ∧ k < w6.heap.size ∧ lv.ownBlock ≠ some k
 kp : ∀ k, X k → w6.heap[k]? = wX.heap[k]?
section
variable {Z : WK} {progs : List (List CD)} {stat : Nat → Prop} {rb m : Nat} {X : Nat → Prop} {wX wr : World} {S : WD} {evs : List EvD} {lv : Value}
theorem RunS.lt (H : RunS Z progs stat rb X wX m wr S evs lv) : rb < wr.heap.size := (Array.getElem?_eq_some_iff.1 H.blk).1
theorem RunS.grow {W : World} (H : RunS Z progs stat rb X wX m wr S evs lv) (u : Up wr W) : RunS Z progs stat rb X wX m W S evs lv := by
 obtain ⟨N, va, vl, ow, h1, h2⟩ := H.wd
 exact ⟨⟨N, va, vl, ow, h1.grow u, h2⟩, H.fit, H.gi, H.rbg, (u.block _ H.lt).trans H.blk, H.row.up u, H.len, fun k hk => ⟨(H.xlt k hk).1, Nat.lt_of_lt_of_le (H.xlt k hk).2.1 u.size, (H.xlt k hk).2.2⟩, fun k hk => (u.block k (H.xlt k hk).2.1).trans (H.kp k hk)⟩
theorem RunS.more {m' : Nat} (H : RunS Z progs stat rb X wX m wr S evs lv) (h : m ≤ m') : RunS Z progs stat rb X wX m' wr S evs lv := by
 obtain ⟨N, va, vl, ow, h1, h2, h3⟩ := H.wd
 exact ⟨⟨N, va, vl, ow, h1, by omega, h3⟩, H.fit.more h, H.gi, H.rbg, H.blk, H.row, by have := H.len; omega, H.xlt, H.kp⟩
theorem RunS.box {W : World} (H : RunS Z progs stat rb X wX m wr S evs lv) (u : Up wr W) : RunS Z progs stat rb (fun k => wr.heap.size ≤ k ∧ k < W.heap.size) W m W S evs lv := by
 obtain ⟨N, va, vl, ow, h1, h2, h3, h4, h5, h6⟩ := H.wd
 exact ⟨⟨N, va, vl, ow, h1.grow u, h2, h3, h4, h5, fun k hk => h1.free hk.1⟩, H.fit, H.gi, H.rbg, (u.block _ H.lt).trans H.blk, H.row.up u, H.len, fun k hk => ⟨by have := H.lt; omega, hk.2, fun e => by have := (World.ownsRow.lt H.row k e).2; omega⟩, fun k hk => rfl⟩
theorem RunS.drop (H : RunS Z progs stat rb X wX m wr S evs lv) (wY : World) : RunS Z progs stat rb (fun _ => False) wY m wr S evs lv := by
 obtain ⟨N, va, vl, ow, h1, h2, h3, h4, h5, h6⟩ := H.wd
 exact ⟨⟨N, va, vl, ow, h1, h2, h3, h4, h5, fun k hk => hk.elim⟩, H.fit, H.gi, H.rbg, H.blk, H.row, H.len, fun k hk => hk.elim, fun k hk => hk.elim⟩
theorem RunS.small (H : RunS Z progs stat rb X wX m wr S evs lv) (hFr : FreshOK Z.M) {t : Nat} (ht : t < S.n) (hst : (S.ths t).st = 2) : SmallX (S.bank.endA Z.M.fresh t (drawV Z.M t S.tick)).1 := by
 obtain ⟨Hh, hH⟩ := H.gi
 exact hH.small hFr ht hst _
theorem RunS.mid (H : RunS Z progs stat rb X wX m wr S evs lv) (L : Lies Z progs stat) {N : Nat} {va vl : Nat → Value} {ow : Nat → Nat} (hW : Wd Z wr S N va vl ow) (hN : N ≤ 9 * m) (hs : ∀ j, stat j → ow j = 0) (h0 : ow rb = 0) (hl : ∀ j, lv.ownBlock = some j → ow j = 0) (hX : ∀ k, X k → ow k = 0)
 {E : List EvD} {S' : WD} (hF : Fits Z.M progs (m + 1) S') (hG : ∃ H, GInv Z.M progs S' H) (hE : E.length ≤ 2001) {e : Ending} {w6 : World} (hp : PickPost Z N wr ow E S' e w6) :
 ∃ v, e = .returned v ∧ MidS Z progs stat rb X wX m w6 S' evs E lv v wr.heap.size := by
 obtain ⟨v, va', vl', ow', N', rfl, hE', hN', hW', hO, hK, hV⟩ := hp
 have hlt := H.lt
 have hblk := (hK rb hlt h0).trans H.blk
 refine ⟨v, rfl, ⟨N', va', vl', ow', hW', by omega, fun j hj => ?_, (hO rb hlt).trans h0, fun j hj => ?_, fun k hk => (hO k (H.xlt k hk).2.1).trans (hX k hk)⟩, hF, hG, H.rbg, hblk, own_same H.row fun k hk => hK k (World.ownsRow.lt H.row k hk).2 (hl k hk), hE', H.len, hE, fun k hk => ?_, fun k hk => (hK k (H.xlt k hk).2.1 (hX k hk)).trans (H.kp k hk)⟩
 · exact (hO j (Nat.lt_of_lt_of_le (L.st j hj) hW.up.size)).trans (hs j hj)
 · exact (hO j (World.ownsRow.lt H.row j hj).2).trans (hl j hj)
 · have h1 := (H.xlt k hk).2.1
   have h2 := hK k h1 (hX k hk)
   rw [Array.getElem?_eq_getElem h1] at h2
   exact ⟨(H.xlt k hk).1, (Array.getElem?_eq_some_iff.1 h2).1, (H.xlt k hk).2.2⟩
theorem RunS.pick (H : RunS Z progs stat rb X wX m wr S evs lv) (L : Lies Z progs stat) (hD : DoOK Z progs stat) (hFw : FewOK Z.M progs) (hFr : FreshOK Z.M) (hm : m ≤ 4500) {t : Nat} (ht : t < Z.n) :
 Calls Tryz.prog 26 #[.pointer (some ⟨Z.b, 0, none⟩), .int .i64 t] wr fun e w6 => ∃ v, e = .returned v ∧ MidS Z progs stat rb X wX m w6 (pickS Z.M t S) evs (pickE Z.M t S) lv v wr.heap.size := by
 obtain ⟨N, va, vl, ow, hW, hN, hs, h0, hl, hX⟩ := H.wd
 have hx : t < S.n → (S.ths t).st = 2 → SmallX (S.bank.endA Z.M.fresh t (drawV Z.M t S.tick)).1 := fun h1 h2 => H.small hFr h1 h2
 refine (wpick_any L hD hFw hW hs H.fit (by omega) (by omega) ht hx).mono fun e w6 hp => ?_
 obtain ⟨Hh, hH⟩ := H.gi
 exact H.mid L hW hN hs h0 hl hX (H.fit.pick hFw t (by omega) hx) ⟨_, hH.pick t⟩ (pickE_len hFw H.fit t (by omega) hx) hp
theorem RunS.halt (H : RunS Z progs stat rb X wX m wr S evs lv) (L : Lies Z progs stat) {t : Nat} (ht : t < Z.n) :
 Calls Tryz.prog 25 #[.pointer (some ⟨Z.b, 0, none⟩), .int .i64 t] wr fun e w6 => ∃ v, e = .returned v ∧ MidS Z progs stat rb X wX m w6 (haltS t S) evs (haltE t S) lv v wr.heap.size := by
 obtain ⟨N, va, vl, ow, hW, hN, hs, h0, hl, hX⟩ := H.wd
 refine (whalt_law L hW ht).mono fun e w6 hp => ?_
 obtain ⟨Hh, hH⟩ := H.gi
 exact H.mid L hW hN hs h0 hl hX ((H.fit.halt t).more (Nat.le_succ m)) ⟨_, hH.halts t⟩ (haltE_len t S) hp
end
section
variable {Z : WK} {progs : List (List CD)} {stat : Nat → Prop} {rb m : Nat} {X : Nat → Prop} {wX w6 : World} {S' : WD} {evs E : List EvD} {lv v : Value} {q : Nat}
theorem MidS.lt (H : MidS Z progs stat rb X wX m w6 S' evs E lv v q) : rb < w6.heap.size := (Array.getElem?_eq_some_iff.1 H.blk).1
theorem MidS.push (H : MidS Z progs stat rb X wX m w6 S' evs E lv v q) (L : Lies Z progs stat) {w5 : World} {lv' : Value} (hown : w5.ownsRow (rb + 1) 60 7 lv' (evs.length + E.length) (evs.flatMap evL ++ E.flatMap evL)) (G : w6.grownBy w5 lv.ownBlock) (hB : Below (rb + 1) w6 w5) (hat : lv'.ownBlock = lv.ownBlock ∨ lv'.ownBlock = some w6.heap.size) :
 RunS Z progs stat rb X wX (m + 1) (w5.setCell ⟨rb, 0, none⟩ lv') S' (evs ++ E) lv' := by
 obtain ⟨N, va, vl, ow, hW, hN, hs, h0, hl, hX⟩ := H.wd
 have hlt := H.lt
 have hZB : Z.B ≤ rb := Nat.le_trans hW.Bw H.rbg
 have hset : ∀ k, k ≠ rb → (w5.setCell ⟨rb, 0, none⟩ lv').heap[k]? = w5.heap[k]? := fun k hk => Below.heap_setCell w5 ⟨rb, 0, none⟩ _ k hk
 have hW5 : Wd Z w5 S' N va vl ow := hW.offRow (fun k e => ⟨hl k e, by have := (World.ownsRow.lt H.row k e).1; have := H.rbg; omega⟩) G (Below.mono hB (by omega))
 refine ⟨⟨N, va, vl, ow, ?_, hN, hs, h0, fun j hj => ?_, hX⟩, H.fit, H.gi, H.rbg, ?_, ?_, ?_, fun k hk => ?_, fun k hk => ?_⟩
 · refine hW5.keep ((Below.refl Z.B w5).setCell (p := ⟨rb, 0, none⟩) hZB _) (fun k hk h => hset k (fun e => h (by rw [e]; exact h0))) (fun k hk h => hset k (by have := H.rbg; omega))
 · rcases hat with e | e
   · rw [e] at hj; exact hl j hj
   · rw [e] at hj; cases hj
     exact hW.free (Nat.le_refl _)
 · have hb5 : w5.heap[rb]? = w6.heap[rb]? := G.block rb hlt (fun e => by have := (World.ownsRow.lt H.row rb e.symm).1; omega)
   exact cells_setCell (hb5.trans H.blk) 0 _
 · unfold EvRow
   rw [List.length_append, List.flatMap_append]
   exact own_same hown fun k e => hset k (fun e2 => by have := (hown.lt k e).1; omega)
 · have := H.len; have := H.len2
   rw [List.length_append]; omega
 · obtain ⟨h1, h2, h3⟩ := H.xlt k hk
   refine ⟨h1, by have := hB.size; simp; omega, fun e => ?_⟩
   rcases hat with e2 | e2
   · exact h3 (e2.symm.trans e)
   · rw [e2] at e; cases e; omega
 · obtain ⟨h1, h2, h3⟩ := H.xlt k hk
   exact (hset k (by omega)).trans ((G.block k h2 (fun e => h3 e.symm)).trans (H.kp k hk))
end
structure FinS (Z : WK) (rb : Nat) (wr : World) (S : WD) (evs : List EvD) (lv : Value) (cs : Array Value) : Prop where
 wd : ∃ N va vl ow, Wd Z wr S N va vl ow ∧ ow rb = 0
 rbg : Z.w1.heap.size ≤ rb
 blk : wr.heap[rb]? = some (.cells cs 32 (0, 0))
 row : EvRow wr (rb + 1) lv evs
section
variable {Z : WK} {progs : List (List CD)} {stat : Nat → Prop} {rb m : Nat} {wr : World} {S : WD} {evs : List EvD} {lv : Value} {cs : Array Value}
theorem RunS.fin {X : Nat → Prop} {wX : World} (H : RunS Z progs stat rb X wX m wr S evs lv) : FinS Z rb wr S evs lv #[lv, .int .i64 0, .slice none 0 0, .slice none 0 0, .slice none 0 0] := by
 obtain ⟨N, va, vl, ow, h1, h2, h3, h4, h5⟩ := H.wd
 exact ⟨⟨N, va, vl, ow, h1, h4⟩, H.rbg, H.blk, H.row⟩
theorem FinS.lt (H : FinS Z rb wr S evs lv cs) : rb < wr.heap.size := (Array.getElem?_eq_some_iff.1 H.blk).1
theorem FinS.grow {W : World} (H : FinS Z rb wr S evs lv cs) (u : Up wr W) : FinS Z rb W S evs lv cs := by
 obtain ⟨N, va, vl, ow, h1, h2⟩ := H.wd
 exact ⟨⟨N, va, vl, ow, h1.grow u, h2⟩, H.rbg, (u.block _ H.lt).trans H.blk, H.row.up u⟩
theorem FinS.set (H : FinS Z rb wr S evs lv cs) (j : Nat) (v : Value) : FinS Z rb (wr.setCell ⟨rb, j, none⟩ v) S evs lv (cs.setIfInBounds j v) := by
 obtain ⟨N, va, vl, ow, hW, h0⟩ := H.wd
 have hZB : Z.B ≤ rb := Nat.le_trans hW.Bw H.rbg
 have hset : ∀ k, k ≠ rb → (wr.setCell ⟨rb, j, none⟩ v).heap[k]? = wr.heap[k]? := fun k hk => Below.heap_setCell wr ⟨rb, j, none⟩ _ k hk
 refine ⟨⟨N, va, vl, ow, ?_, h0⟩, H.rbg, cells_setCell H.blk j v, own_same H.row fun k e => hset k (fun e2 => by have := (World.ownsRow.lt H.row k e).1; omega)⟩
 exact hW.keep ((Below.refl Z.B wr).setCell (p := ⟨rb, j, none⟩) hZB _) (fun k hk h => hset k (fun e => h (by rw [e]; exact h0))) (fun k hk h => hset k (by have := H.rbg; omega))
theorem FinS.up (H : FinS Z rb wr S evs lv cs) {w : World} (u : Up w Z.w1) (hB : w.heap.size ≤ Z.B) : Up w wr := by
 obtain ⟨N, va, vl, ow, hW, h0⟩ := H.wd
 exact Below.trans u (Below.mono hW.up hB)
theorem RunS.up {X : Nat → Prop} {wX : World} (H : RunS Z progs stat rb X wX m wr S evs lv) {w : World} (u : Up w Z.w1) (hB : w.heap.size ≤ Z.B) : Up w wr := H.fin.up u hB
theorem FinS.now (H : FinS Z rb wr S evs lv cs) : Calls Tryz.prog 27 #[.pointer (some ⟨Z.b, 0, none⟩)] wr fun e w' => e = .returned (.int .i64 S.now) ∧ w' = wr := by
 obtain ⟨N, va, vl, ow, hW, h0⟩ := H.wd
 exact wnow_any hW
theorem FinS.gNext (H : FinS Z rb wr S evs lv cs) (hZ : ZOK Z) : Calls Tryz.prog 28 #[.int .i64 Z.n, .func (.func 29) #[.pointer (some ⟨Z.b, 0, none⟩)] #[]] wr fun e w' => (∃ A m c, e = .returned (.slice A m c)) ∧ Up wr w' := by
 obtain ⟨N, va, vl, ow, hW, h0⟩ := H.wd
 refine gather_any 29 _ Z.n hZ.n8 wr (fun args W => rfl) fun t ht W' u => (wnext_any (hW.grow u) hZ ht).mono ?_
 rintro e w'' ⟨rfl, rfl⟩
 exact ⟨⟨_, rfl⟩, Up.refl _⟩
theorem FinS.gAccs (H : FinS Z rb wr S evs lv cs) (hZ : ZOK Z) : Calls Tryz.prog 28 #[.int .i64 Z.n, .func (.func 31) #[.pointer (some ⟨Z.b, 0, none⟩)] #[]] wr fun e w' => (∃ A m c, e = .returned (.slice A m c)) ∧ Up wr w' := by
 obtain ⟨N, va, vl, ow, hW, h0⟩ := H.wd
 refine gather_any 31 _ Z.n hZ.n8 wr (fun args W => rfl) fun t ht W' u => (waccs_any (hW.grow u) hZ ht).mono ?_
 rintro e w'' ⟨rfl, rfl⟩
 exact ⟨⟨_, rfl⟩, Up.refl _⟩
theorem FinS.gPhase (H : FinS Z rb wr S evs lv cs) (L : Lies Z progs stat) (hF : ∀ t, t < S.n → (S.ths t).prog = progs.getD t []) : Calls Tryz.prog 28 #[.int .i64 Z.n, .func (.func 30) #[.pointer (some ⟨Z.b, 0, none⟩)] #[]] wr fun e w' => (∃ A m c, e = .returned (.slice A m c)) ∧ Up wr w' := by
 obtain ⟨N, va, vl, ow, hW, h0⟩ := H.wd
 refine gather_any 30 _ Z.n L.z.n8 wr (fun args W => rfl) fun t ht W' u => ?_
 obtain ⟨A, pc, hpv, -⟩ := L.pr t ht
 rw [← hF t (by rw [hW.n]; exact ht)] at hpv
 refine (wphase_any (hW.grow u) L.z ht hpv).mono ?_
 rintro e w'' ⟨rfl, h⟩
 exact ⟨⟨_, rfl⟩, h⟩
end
end Go.Proofs.YtpodgcpkccpnfaaGreat

