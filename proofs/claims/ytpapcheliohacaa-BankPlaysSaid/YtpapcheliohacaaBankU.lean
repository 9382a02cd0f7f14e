/-
  Used: the cells' numbers, ascending.
-/
import Derived.Test.YtpapcheliohacaaBankF
import Derived.Shelf.SlIterI.Nil
import Derived.Shelf.SortM.Plain
import Derived.Shelf.SortM.SortNone
import Derived.Test.YtpapcheliohacaaLay
set_option linter.unusedVariables false
set_option linter.unusedSimpArgs false
namespace Go.Proofs.Ytpapcheliohacaa
open Go.RowKit Go.Shelf Go.Maps Go.Sort


theorem sortsA (m : Nat) : AnyZI.SortsIn Try.prog Try.sortedA_ren Fence.wide m :=
  ⟨fun blk off cap ss W hH hblk hsz => callsIn_wide.2 (AnyM.slices_Sort_int Try.sortA blk off cap ss W hH hblk hsz),
   fun p cap W => callsIn_wide.2 (AnyM.slices_Sort_int_none Try.sortA p cap W)⟩

theorem keys_facts {w : World} {m sz : Nat} {D : DataW Unit} (h : w.ownsMap Try.prog 3 ptrR m sz D) : (intKeys D).Nodup ∧ ∀ x, x ∈ intKeys D ↔ has D (.int .i64 x) = true := by
  obtain ⟨es, hD, hpw, _⟩ := h.entries intLaw
  obtain ⟨es', hD', hko⟩ := h.keysOf
  obtain rfl : es = es' := by rw [hD] at hD'; simpa using hD'
  subst hD
  have hk : ∀ p ∈ es, ∃ x, p.1 = .int .i64 x := fun p hp => by
    obtain ⟨v, hv⟩ := hko p hp
    obtain ⟨x, _, hx, _⟩ := Maps.keyOf_i64 Try.underlying3 hv
    exact ⟨x, hx⟩
  have hmem : ∀ x, x ∈ intKeys (.map es : DataW Unit) ↔ ∃ p, p ∈ es ∧ p.1 = .int .i64 x := fun x => by
    show x ∈ es.map (fun p => Go.intOf p.1) ↔ _
    rw [List.mem_map]
    constructor
    · rintro ⟨p, hp, rfl⟩
      obtain ⟨a, ha⟩ := hk p hp
      exact ⟨p, hp, by rw [ha]; rfl⟩
    · rintro ⟨p, hp, e⟩
      exact ⟨p, hp, by rw [e]; rfl⟩
  refine ⟨?_, fun x => ?_⟩
  · show (es.map fun p => Go.intOf p.1).Nodup
    refine List.pairwise_map.2 (hpw.imp_of_mem fun {p q} hp hq hne e => hne ?_)
    obtain ⟨a, ha⟩ := hk p hp
    obtain ⟨b, hb⟩ := hk q hq
    rw [ha, hb] at e ⊢
    have e : a = b := e
    rw [e]
  · rw [hmem, has_eq, List.any_eq_true]
    constructor
    · rintro ⟨p, hp, e⟩
      exact ⟨p, hp, by rw [e]; simp [Lit.sameKey]⟩
    · rintro ⟨p, hp, hs⟩
      obtain ⟨a, ha⟩ := hk p hp
      rw [ha] at hs
      refine ⟨p, hp, ?_⟩
      rw [ha]
      have : a = x := by simpa [Lit.sameKey] using hs
      rw [this]

/-- Ascending, each once, just those that F knows. -/
def UsedIs (F : Int → Option Nat) (L : List Int) : Prop := L.Pairwise (fun a b => a < b) ∧ ∀ x, x ∈ L ↔ (Wf x ∧ (F x).isSome = true)

set_option maxHeartbeats 1000000 in
theorem used_any (b : Nat) (R : Value) (many : Int) (m sz : Nat) (by' : Nat → Bool × Int) (F : Int → Option Nat) (w : World) (hsz : sz ≤ 100000) (HB : BankB w b R many m by') (HM : MapB w m sz F) :
    Calls Try.prog 29 #[.pointer (some ⟨b, 0, none⟩)] w fun e w' => ∃ (v : Value) (L : List Int), e = .returned v ∧ UsedIs F L ∧ w'.ownsRow w.heap.size 3 1 v L.length (L.map (Value.int .i64)) ∧ Up w w' := by
  obtain ⟨D, hown, hF⟩ := HM
  have k2 := HB.k2
  have hfacts := keys_facts hown
  have hsl := hown.size_le
  have hwf := intKeys_wf hown Try.underlying3
  have HGO : Hid (∀ ss : List Int, ss.Perm (intKeys D) → UsedIs F (ss.mergeSort (fun x y => decide (x ≤ y)))) := Lib.hid (fun ss hp => by
    have tr : ∀ a b c : Int, decide (a ≤ b) = true → decide (b ≤ c) = true → decide (a ≤ c) = true := fun a b c h1 h2 => by simp only [decide_eq_true_eq] at *; omega
    have to : ∀ a b : Int, (decide (a ≤ b) || decide (b ≤ a)) = true := fun a b => by simp only [Bool.or_eq_true, decide_eq_true_eq]; omega
    have hs := List.pairwise_mergeSort tr to ss
    have hperm := (List.mergeSort_perm ss (fun x y => decide (x ≤ y))).trans hp
    have hnd : (ss.mergeSort (fun x y => decide (x ≤ y))).Nodup := hperm.nodup_iff.2 hfacts.1
    refine ⟨(hs.and hnd).imp fun {a b} h => ?_, fun x => ?_⟩
    · have := of_decide_eq_true h.1
      have := h.2
      omega
    · rw [hperm.mem_iff]
      constructor
      · intro hx
        have h1 := hwf x hx
        exact ⟨h1, by rw [← (hF x h1).2]; exact (hfacts.2 x).1 hx⟩
      · rintro ⟨h1, h2⟩
        rw [← (hF x h1).2] at h2
        exact (hfacts.2 x).2 h2)
  refine (callsIn_wide (n := 6)).1 ?_
  have hbl := hown.lt
  have hseq : SeqGives Fence.wide 2 Try.prog 53 #[.pointer (some ⟨w.heap.size, 0, none⟩)] encZ (fun ss => ss.Perm (intKeys D)) (Maps.size D) (w.alloc (.cells #[.map (some m)] 80)) :=
    AnyZI.keys_gives (ρ := Try.keysA_ren) { Try.keysA with } Fence.wide _ trivial rfl (by omega) w.heap.size m sz D _ (by simp) (by simp) (by
      obtain ⟨es, clock, hb, Ft, hs, hD⟩ := hown
      exact ⟨es, clock, (Below.heap_alloc _ _ m hbl).trans hb, Ft, hs, hD⟩)
  have cK : ∀ mb W, CallsIn Fence.wide 5 Try.prog 47 #[.map mb] W fun e w' => e = .returned (.func (.func 53) #[] #[.pointer (some ⟨W.heap.size, 0, none⟩)]) ∧ w' = W.alloc (.cells #[.map mb] 80) := fun mb W => AnyZI.keys_in Try.keysA Fence.wide 5 trivial rfl mb W
  have cS := AnyZI.sorted_in Try.sortedA Fence.wide 5 trivial trivial trivial trivial rfl (by omega) (sortsA _) (enters_of Try.func52 (by kernel_rfl) rfl) 53 #[.pointer (some ⟨w.heap.size, 0, none⟩)] trivial (enters_of Try.func53 (by kernel_rfl) rfl) _ _ (show Maps.size D ≤ maxLen from by unfold maxLen; omega) (by omega) _ hseq
  change CallsIn _ _ Try.prog 46 _ _ _ at cS
  have hfK : Fence.wide.fn 47 := trivial
  have hfS : Fence.wide.fn 46 := trivial
  clear HB hfacts hsl hwf hF hown hseq
  refine callsIn_of_wp Try.func29 rfl trivial ?_ rfl
  simp only [Try.ntmps29, List.size_toArray, List.length_cons, List.length_nil, Nat.reduceAdd, Nat.reduceSub, Array.replicate_succ, Array.replicate_zero, List.push_toArray, List.append_toArray, List.nil_append, List.cons_append]
  gi_wp2_with (first
    | (gi_at_call 47; refine (cK _ _).mono ?_; rintro e w' ⟨rfl, rfl⟩)
    | (gi_at_call 46; refine cS.mono ?_; rintro e w' ⟨v, ss, rfl, hS, hrow, hnil, hb⟩))
  go_ret
  have hl : (ss.mergeSort (fun x y => decide (x ≤ y))).length = ss.length := List.length_mergeSort _
  exact ⟨v, _, rfl, HGO.out ss hS, by rw [hl]; exact ownsRow_base_a hrow (by simp), ((Up.refl w).alloc _).trans (hb.mono (Nat.le_refl _))⟩

end Go.Proofs.Ytpapcheliohacaa
