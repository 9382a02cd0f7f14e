/-
  Parts of a proof, packed: DrsP, AlvP, AlvW, AudC, AudG, AudH
-/
import Derived.Test.YtpodgcpkccpnfaaGreatPk01
import Derived.Test.YtpodgcpkccpnfaaGreatPk19
import Derived.Test.YtpodgcpkccpnfaaGreatPk20
import Derived.Test.YtpodgcpkccpnfaaGreatPk21
import Derived.Test.YtpodgcpkccpnfaaGreatPk26
import Derived.Test.YtpodgcpkccpnfaaGreatPk27
set_option linter.unusedVariables false
set_option linter.unusedSimpArgs false
set_option maxRecDepth 20000
set_option maxHeartbeats 16000000
namespace Go.Proofs.YtpodgcpkccpnfaaGreat
open Go.RowKit
def rowScP (x : RowD) (mode room : Int) : ScD := { rowSc x mode room with picks := picksL (rowN x) x.picks }
theorem rowN_in (x : RowD) : 1 ≤ rowN x ∧ rowN x ≤ 4 := by unfold rowN; omega
theorem getD_replicate {α : Type} (n i : Nat) (a d : α) (h : i < n) : (List.replicate n a).getD i d = a := by
 rw [List.getD_eq_getElem?_getD, List.getElem?_replicate, if_pos h]; rfl
theorem rowProg_at : ∀ k j, j < (rowProg k).length → (rowProg k).getD j (0, 0, 0) = if j % 2 = 0 then (1, 0, 0) else (2, 0, 0)
 | 0, j, h => by simp [rowProg] at h
 | k + 1, j, h => by
  have hl := rowProg_len k
  rw [rowProg_len] at h
  show (rowProg k ++ [(1, 0, 0), (2, 0, 0)]).getD j (0, 0, 0) = _
  rcases Nat.lt_or_ge j (rowProg k).length with hlt | hge
  · rw [List.getD_eq_getElem?_getD, List.getElem?_append_left hlt, ← List.getD_eq_getElem?_getD]
    exact rowProg_at k j hlt
  · rw [List.getD_eq_getElem?_getD, List.getElem?_append_right hge]
    rcases (show j = 2 * k ∨ j = 2 * k + 1 by omega) with rfl | rfl
    · rw [hl, Nat.sub_self, if_pos (by omega)]; rfl
    · rw [hl, show 2 * k + 1 - 2 * k = 1 by omega, if_neg (by omega)]; rfl
theorem rowProg_mem {k : Nat} {c : CD} (h : c ∈ rowProg k) : c = (1, 0, 0) ∨ c = (2, 0, 0) := by
 obtain ⟨j, hj, e⟩ := List.getElem_of_mem h
 have := rowProg_at k j hj
 rw [List.getD_eq_getElem?_getD, List.getElem?_eq_getElem hj] at this
 have h2 : c = if j % 2 = 0 then (1, 0, 0) else (2, 0, 0) := by rw [← e]; exact this
 split at h2
 · exact .inl h2
 · exact .inr h2
theorem rowDraws_in (x : RowD) : (rowDraws x).length ≤ 64 ∧ ∀ d, d ∈ rowDraws x → 0 ≤ d ∧ d ≤ 1073741823 := by
 refine ⟨by unfold rowDraws; rw [List.length_take]; omega, fun d hd => ?_⟩
 have h := List.mem_of_mem_take hd
 unfold tameL at h
 obtain ⟨y, _, rfl⟩ := List.mem_map.1 h
 exact wrapI_le y 1073741823 (by decide)
theorem getD_mem {α : Type} (l : List α) {i : Nat} (h : i < l.length) (d : α) : l.getD i d ∈ l := by
 rw [List.getD_eq_getElem?_getD, List.getElem?_eq_getElem h]
 exact List.getElem_mem h
theorem rowScP_ok (x : RowD) (room : Int) (hr : 1 ≤ room ∧ room ≤ 1048576) : ScrOK (rowScP x 1 room) := by
 have hn := rowN_in x
 have hp := picksL_ok hn.1 (show rowN x ≤ 8 by omega) x.picks
 have hd := rowDraws_in x
 have hl : (rowScP x 1 room).progs.length = rowN x := List.length_replicate
 refine ⟨by rw [hl]; omega, by show 1 ≤ 8; omega, by have := hp.1; show (picksL _ _).length ≤ 400; omega, hd.1, fun i hi => ?_, fun i hi => by rw [hl]; exact hp.2.2 i hi, fun i hi => hd.2 _ (getD_mem _ hi _), fun i hi => ?_, hp.2.1⟩
 · rw [hl] at hi
   have e : (rowScP x 1 room).progs.getD i [] = rowProg (x.many % 3 + 1) := getD_replicate _ _ _ _ hi
   rw [e]
   refine ⟨by rw [rowProg_len]; omega, fun j hj => ?_⟩
   rw [rowProg_at _ _ hj]
   split
   · exact ⟨by decide, by decide, by decide⟩
   · exact ⟨by decide, by decide, by decide⟩
 · have hi0 : i = 0 := by have : i < 1 := hi; omega
   subst hi0
   show fineThingP ⟨1, 1 + ((x.alg % 8 : Nat) : Int), 1, room, 0, 0, 0, 0⟩
   unfold fineThingP
   dsimp only
   omega
theorem rowScP_lk {x : RowD} (ha : x.alg = 0) (room : Int) (hr : 1 ≤ room ∧ room ≤ 1048576) : LkSc 1 (rowN x) room (rowScP x 1 room) where
 ok := rowScP_ok x room hr
 len := List.length_replicate
 th := by
  show [(⟨1, 1 + ((x.alg % 8 : Nat) : Int), 1, room, 0, 0, 0, 0⟩ : ThingD)] = _
  rw [ha]; rfl
 pos := fun i hi => by
  have hl : (rowScP x 1 room).progs.length = rowN x := List.length_replicate
  rw [hl] at hi
  have e : (rowScP x 1 room).progs.getD i [] = rowProg (x.many % 3 + 1) := getD_replicate _ _ _ _ hi
  rw [e, rowProg_len]; omega
 ops := fun t c hc => by
  have hl : (rowScP x 1 room).progs.length = rowN x := List.length_replicate
  rcases Nat.lt_or_ge t (rowN x) with ht | ht
  · have e : (rowScP x 1 room).progs.getD t [] = rowProg (x.many % 3 + 1) := getD_replicate _ _ _ _ ht
    rw [e] at hc
    rcases rowProg_mem hc with rfl | rfl
    · exact ⟨.inl rfl, rfl⟩
    · exact ⟨.inr rfl, rfl⟩
  · rw [List.getD_eq_getElem?_getD, List.getElem?_eq_none (by rw [hl]; exact ht)] at hc
    cases hc
 lk := ⟨.inl rfl, by have := rowN_in x; omega, hr, by decide⟩
theorem rowScP_ops (x : RowD) (mode room : Int) : Ops12 (rowScP x mode room).progs := fun t i ht hi => by
 have hl : (rowScP x mode room).progs.length = rowN x := List.length_replicate
 rw [hl] at ht
 have e : (rowScP x mode room).progs.getD t [] = rowProg (x.many % 3 + 1) := getD_replicate _ _ _ _ ht
 unfold callAt
 rw [e] at hi ⊢
 rw [rowProg_at _ _ hi]
 split <;> rfl
theorem readMax_keeps {num : Int} {me : Nat} {i : Int} : ∀ (js : List Nat) (t : Int), (readMax num me js t).keeps i
 | [], t => trivial
 | j :: js, t => by
  unfold readMax
  split
  · exact readMax_keeps js t
  · exact fun x => readMax_keeps js _
theorem spin0_keeps {c i : Int} : ∀ f, (spin0 c f).keeps i
 | 0 => fun _ => trivial
 | f + 1 => fun x => by
  show (if x = 0 then (.ret () : Op Unit) else spin0 c f).keeps i
  split
  · trivial
  · exact spin0_keeps f
theorem spinP_keeps {c i : Int} {p : Int → Bool} : ∀ f, (spinP c p f).keeps i
 | 0 => fun _ => trivial
 | f + 1 => fun x => by
  show (if p x = true then (.ret x : Op Int) else spinP c p f).keeps i
  split
  · trivial
  · exact spinP_keeps f
theorem bakWait_keeps {ch num t i : Int} {me F : Nat} : ∀ js, (bakWait ch num me t F js).keeps i
 | [] => trivial
 | j :: js => by
  unfold bakWait
  split
  · exact bakWait_keeps js
  · exact Op.keeps_bind _ _ (spin0_keeps F) fun _ => Op.keeps_bind _ _ (spinP_keeps F) fun _ => bakWait_keeps js
theorem bakAcq_keeps {n : Nat} {room base : Int} {me F : Nat} : (bakAcq n room base 0 me F).keeps 1 := by
 refine fun x => Op.keeps_bind _ _ (readMax_keeps _ _) fun t => ?_
 unfold bakTicket
 split
 · exact fun x => trivial
 · intro x
   refine ⟨by decide, fun y => ?_⟩
   show Op.keeps 1 (Op.bind _ _)
   exact Op.keeps_bind _ _ (bakWait_keeps _) fun _ => trivial
theorem rowScP_alt {x : RowD} (room : Int) : Alt (lkM 1 (rowScP x 1 room).progs.length room (rowScP x 1 room).draws) (rowScP x 1 room).progs 1 (fun t => bakAcq (rowScP x 1 room).progs.length room 0 0 t 6000) (fun t => bakRel (rowScP x 1 room).progs.length 0 0 t) where
 hm := by decide
 call := fun t i ht hi => by
  have h := rowScP_ops x 1 room t i ht hi
  rcases hc : callAt (rowScP x 1 room).progs t i with ⟨y0, y1, y2⟩
  rw [hc] at h
  dsimp only at h
  by_cases e : i % 2 = 0
  · rw [if_pos e] at h ⊢
    subst h
    rfl
  · rw [if_neg e] at h ⊢
    subst h
    rfl
 ka := fun t => bakAcq_keeps
 kr := fun t => show ∀ x : Int, _ from fun x => ⟨by decide, trivial⟩
def doorEvs (x : RowD) (room : Int) : List EvD := (runP (lkM 1 (rowN x) room (rowScP x 1 room).draws) (rowScP x 1 room).picks (rowScP x 1 room).picks.length (startW (rowScP x 1 room).progs)).2
theorem door_law {x : RowD} (ha : x.alg = 0) (room : Int) (hr : 1 ≤ room ∧ room ≤ 1048576) :
 (∀ e, e ∈ doorEvs x room → ∃ t c : Nat, EvT (rowScP x 1 room).progs e t c) ∧ DoorsP (actsOb (rowScP x 1 room).progs 0 (doorEvs x room)) ∧ ExclP (actsOb (rowScP x 1 room).progs 0 (doorEvs x room)) (rowScP x 1 room).progs.length ∧ ErrsP (doorEvs x room) := by
 have hS := rowScP_lk ha room hr
 have hlen : (rowScP x 1 room).progs.length = rowN x := List.length_replicate
 obtain ⟨H, C, hE, hL⟩ := run_logs (lkM 1 (rowN x) room (rowScP x 1 room).draws) (rowScP x 1 room).progs (by rw [hlen]; have := rowN_in x; omega) (fun c t => lkM_fresh.off c t) (rowScP x 1 room).picks (rowScP x 1 room).picks.length
 have hEv : doorEvs x room = H.filterMap vis := hE
 have hO := rowScP_ops x 1 room
 have hA := rowScP_alt (x := x) room
 have hC := lkM_bak (draws := (rowScP x 1 room).draws) hS.lk
 rw [hEv]
 have hev : ∀ e, e ∈ H.filterMap vis → ∃ p A, H[p]? = some A ∧ vis A = some e := fun e he => by
  obtain ⟨A, hA, hv⟩ := List.mem_filterMap.1 he
  obtain ⟨p, hp, e2⟩ := List.getElem_of_mem hA
  exact ⟨p, A, by rw [List.getElem?_eq_getElem hp, e2], hv⟩
 have hT : ∀ e, e ∈ H.filterMap vis → ∃ t c : Nat, EvT (rowScP x 1 room).progs e t c := fun e he => by
  obtain ⟨p, A, h1, h2⟩ := hev e he
  obtain ⟨g1, g2⟩ := vis_call h2
  exact ⟨A.t, A.i, g1, g2, (hL.cov p A h1).1⟩
 have hout : ∀ e, e ∈ H.filterMap vis → actIn (rowScP x 1 room).progs 0 e = false → e.kind = 4 := fun e he hn => by
  obtain ⟨p, A, h1, h2⟩ := hev e he
  obtain ⟨g1, g2⟩ := vis_call h2
  obtain ⟨c1, c2⟩ := hL.cov p A h1
  have hEt : EvT (rowScP x 1 room).progs e A.t A.i := ⟨g1, g2, c1⟩
  rcases c2 with c2 | ⟨d, c2, c3⟩
  · unfold vis at h2
    rw [c2] at h2
    cases h2; rfl
  · exfalso
    have hlt : A.i < ((rowScP x 1 room).progs.getD A.t []).length := (hL.call A.t c1 A.i d (by simpa using c2)).lt
    rw [actIn_is hEt, decide_eq_true hlt] at hn
    have hin := (hS.ops A.t _ (getD_mem _ hlt (0, 0, 0))).2
    rw [decide_eq_true hin] at hn
    cases hn
 rw [← hlen] at hL hC
 refine ⟨hT, doors_ob hout ?_, excl_ob hout ?_, ?_⟩
 · exact doors_of hL hA hO hC
 · exact excl_of hL hA hO (alone_bak hL hA hC)
 · exact errs_of hL hA fun t l L v l' hk hp => bakAcq_errs hk hp
end Go.Proofs.YtpodgcpkccpnfaaGreat

namespace Go.Proofs.YtpodgcpkccpnfaaGreat
open Go.RowKit
def aliveSc : ScD := ⟨[⟨1, 2, 1, 1, 0, 0, 0, 0⟩], [[(2, 0, 0), (1, 0, 0)]], [⟨0, 3, false⟩], []⟩
def aliveR : WD × List EvD := runP (lkM 2 1 1 []) aliveSc.picks aliveSc.picks.length (startW aliveSc.progs)
set_option maxRecDepth 100000 in
theorem alive_now : aliveR.1.now = 3 := by kernel_rfl
set_option maxRecDepth 100000 in
theorem alive_evs : aliveR.2.map (fun e => (e.kind, e.err)) = [(1, 0), (2, 9), (1, 0), (3, 0), (3, 0), (3, 0), (2, 0)] := by kernel_rfl
theorem alive_sc : LkSc 2 1 1 aliveSc where
 ok :=
  { n := by decide
    t := by decide
    k := by decide
    d := by decide
    pl := fun i hi => by
     match i, hi with
     | 0, _ =>
      refine ⟨by decide, fun j hj => ?_⟩
      match j, hj with
      | 0, _ => exact ⟨by decide, by decide, by decide⟩
      | 1, _ => exact ⟨by decide, by decide, by decide⟩
    pk := fun i hi => by
     match i, hi with
     | 0, _ => exact ⟨by decide, .inr ⟨rfl, by decide, by decide⟩⟩
    dr := fun i hi => (by cases hi)
    th := fun i hi => by
     match i, hi with
     | 0, _ => unfold fineThingP; decide
    st := by decide }
 len := rfl
 th := rfl
 pos := fun i hi => by
  match i, hi with
  | 0, _ => decide
 ops := fun t c hc => by
  match t, hc with
  | 0, hc =>
   rcases List.mem_cons.1 hc with rfl | hc
   · exact ⟨.inr rfl, rfl⟩
   · rw [List.mem_singleton] at hc
     subst hc
     exact ⟨.inl rfl, rfl⟩
  | t + 1, hc => cases hc
 lk := ⟨.inr rfl, by decide, by decide, by decide⟩
theorem alive_run (w : World) (a : ScA) (hs : ScrAt w aliveSc a) : Calls Tryz.prog 9 #[.agg #[.slice a.TA 1 a.tc, .slice a.PA 1 a.pc, .slice a.KA 1 a.kc, .slice a.DA 0 a.dc]] w fun e w' => ∃ b cap A2 n2 c2 A3 n3 c3 A4 n4 c4, e = .returned (.tuple #[.agg #[.slice (some ⟨b, 0, none⟩) 7 cap, .int .i64 3, .slice A2 n2 c2, .slice A3 n3 c3, .slice A4 n4 c4], .int .i64 0]) ∧
 (w'.cell? ⟨b, 12, none⟩ = some (.int .i64 9) ∧ w'.cell? ⟨b, 43, none⟩ = some (.int .i64 2)) ∧ Up w w' := by
 refine (lk_run alive_sc w hs).mono ?_
 rintro e w' ⟨A0, c0, A2, n2, c2, A3, n3, c3, A4, n4, c4, q, rfl, hrow, hq, hu, hlen0⟩
 have hlen : (runP (lkM 2 1 1 aliveSc.draws) aliveSc.picks aliveSc.picks.length (startW aliveSc.progs)).2.length = 7 := by
  have := congrArg List.length alive_evs
  rw [List.length_map] at this
  exact this
 have hnow : (runP (lkM 2 1 1 aliveSc.draws) aliveSc.picks aliveSc.picks.length (startW aliveSc.progs)).1.now = 3 := alive_now
 have hget : ∀ i : Nat, i < 7 → ((aliveR.2.getD i ev0).kind, (aliveR.2.getD i ev0).err) = ([(1, 0), (2, 9), (1, 0), (3, 0), (3, 0), (3, 0), (2, 0)] : List (Int × Int)).getD i (0, 0) := fun i hi => by
  rw [← alive_evs, List.getD_eq_getElem?_getD, List.getD_eq_getElem?_getD, List.getElem?_map]
  have hl : i < aliveR.2.length := by rw [show aliveR.2.length = 7 from hlen]; exact hi
  rw [List.getElem?_eq_getElem hl]
  rfl
 obtain ⟨b, cap, e1, hb, hc1⟩ := own_flat (f := evL) ev0 (show w'.ownsRow q 60 7 _ (runP (lkM 2 1 1 aliveSc.draws) aliveSc.picks aliveSc.picks.length (startW aliveSc.progs)).2.length _ from hrow) (fun _ => rfl) (show 1 < _ by rw [hlen]; decide)
 obtain ⟨b2, cap2, e2, hb2, hc6⟩ := own_flat (f := evL) ev0 (show w'.ownsRow q 60 7 _ (runP (lkM 2 1 1 aliveSc.draws) aliveSc.picks aliveSc.picks.length (startW aliveSc.progs)).2.length _ from hrow) (fun _ => rfl) (show 6 < _ by rw [hlen]; decide)
 rw [e1] at e2; cases e2
 have k1 := hc1 5 (by decide)
 have k6 := hc6 1 (by decide)
 have g1 := hget 1 (by decide)
 have g6 := hget 6 (by decide)
 refine ⟨b, cap, A2, n2, c2, A3, n3, c3, A4, n4, c4, ?_, ⟨?_, ?_⟩, hu⟩
 · rw [e1, hlen, hnow]; rfl
 · refine k1.trans ?_
   show some (Value.int .i64 (aliveR.2.getD 1 ev0).err) = _
   rw [show (aliveR.2.getD 1 ev0).err = 9 from congrArg Prod.snd g1]
 · refine k6.trans ?_
   show some (Value.int .i64 (aliveR.2.getD 6 ev0).kind) = _
   rw [show (aliveR.2.getD 6 ev0).kind = 2 from congrArg Prod.fst g6]
end Go.Proofs.YtpodgcpkccpnfaaGreat

namespace Go.Proofs.YtpodgcpkccpnfaaGreat
open Go.RowKit
theorem alive_any (w : World) : Calls Tryz.prog 8 #[] w fun e w' => e = .returned (.bool true) ∧ Up w w' := by
 have h0 := heap_alloc_new w (.cells #[.int .i64 1, .int .i64 2, .int .i64 1, .int .i64 1, .int .i64 0, .int .i64 0, .int .i64 0, .int .i64 0] 46)
 have h0 := ((Up.alloc (Up.alloc (Up.alloc (Up.alloc (Up.refl _) (.cells #[.int .i64 2, .int .i64 0, .int .i64 0, .int .i64 1, .int .i64 0, .int .i64 0] 65)) (.cells #[.slice (some ⟨w.heap.size + 1, 0, none⟩) 2 2] 66)) (.cells #[.int .i64 0, .int .i64 3, .bool false] 68)) (.cells #[.slice (some ⟨w.heap.size, 0, none⟩) 1 1, .slice (some ⟨w.heap.size + 1 + 1, 0, none⟩) 1 1, .slice (some ⟨w.heap.size + 1 + 1 + 1, 0, none⟩) 1 1, .slice none 0 0] 27)).block _ (Array.getElem?_eq_some_iff.1 h0).1).trans h0
 have h1 := heap_alloc_new (w.alloc (.cells #[.int .i64 1, .int .i64 2, .int .i64 1, .int .i64 1, .int .i64 0, .int .i64 0, .int .i64 0, .int .i64 0] 46)) (.cells #[.int .i64 2, .int .i64 0, .int .i64 0, .int .i64 1, .int .i64 0, .int .i64 0] 65)
 have h1 := ((Up.alloc (Up.alloc (Up.alloc (Up.refl _) (.cells #[.slice (some ⟨w.heap.size + 1, 0, none⟩) 2 2] 66)) (.cells #[.int .i64 0, .int .i64 3, .bool false] 68)) (.cells #[.slice (some ⟨w.heap.size, 0, none⟩) 1 1, .slice (some ⟨w.heap.size + 1 + 1, 0, none⟩) 1 1, .slice (some ⟨w.heap.size + 1 + 1 + 1, 0, none⟩) 1 1, .slice none 0 0] 27)).block _ (Array.getElem?_eq_some_iff.1 h1).1).trans h1
 have h2 := heap_alloc_new ((w.alloc (.cells #[.int .i64 1, .int .i64 2, .int .i64 1, .int .i64 1, .int .i64 0, .int .i64 0, .int .i64 0, .int .i64 0] 46)).alloc (.cells #[.int .i64 2, .int .i64 0, .int .i64 0, .int .i64 1, .int .i64 0, .int .i64 0] 65)) (.cells #[.slice (some ⟨w.heap.size + 1, 0, none⟩) 2 2] 66)
 have h2 := ((Up.alloc (Up.alloc (Up.refl _) (.cells #[.int .i64 0, .int .i64 3, .bool false] 68)) (.cells #[.slice (some ⟨w.heap.size, 0, none⟩) 1 1, .slice (some ⟨w.heap.size + 1 + 1, 0, none⟩) 1 1, .slice (some ⟨w.heap.size + 1 + 1 + 1, 0, none⟩) 1 1, .slice none 0 0] 27)).block _ (Array.getElem?_eq_some_iff.1 h2).1).trans h2
 have h3 := heap_alloc_new (((w.alloc (.cells #[.int .i64 1, .int .i64 2, .int .i64 1, .int .i64 1, .int .i64 0, .int .i64 0, .int .i64 0, .int .i64 0] 46)).alloc (.cells #[.int .i64 2, .int .i64 0, .int .i64 0, .int .i64 1, .int .i64 0, .int .i64 0] 65)).alloc (.cells #[.slice (some ⟨w.heap.size + 1, 0, none⟩) 2 2] 66)) (.cells #[.int .i64 0, .int .i64 3, .bool false] 68)
 have h3 := ((Up.alloc (Up.refl _) (.cells #[.slice (some ⟨w.heap.size, 0, none⟩) 1 1, .slice (some ⟨w.heap.size + 1 + 1, 0, none⟩) 1 1, .slice (some ⟨w.heap.size + 1 + 1 + 1, 0, none⟩) 1 1, .slice none 0 0] 27)).block _ (Array.getElem?_eq_some_iff.1 h3).1).trans h3
 have h4 := heap_alloc_new ((((w.alloc (.cells #[.int .i64 1, .int .i64 2, .int .i64 1, .int .i64 1, .int .i64 0, .int .i64 0, .int .i64 0, .int .i64 0] 46)).alloc (.cells #[.int .i64 2, .int .i64 0, .int .i64 0, .int .i64 1, .int .i64 0, .int .i64 0] 65)).alloc (.cells #[.slice (some ⟨w.heap.size + 1, 0, none⟩) 2 2] 66)).alloc (.cells #[.int .i64 0, .int .i64 3, .bool false] 68)) (.cells #[.slice (some ⟨w.heap.size, 0, none⟩) 1 1, .slice (some ⟨w.heap.size + 1 + 1, 0, none⟩) 1 1, .slice (some ⟨w.heap.size + 1 + 1 + 1, 0, none⟩) 1 1, .slice none 0 0] 27)
 simp only [World.size_alloc] at h1 h2 h3 h4
 have hu : Up w (((((w.alloc (.cells #[.int .i64 1, .int .i64 2, .int .i64 1, .int .i64 1, .int .i64 0, .int .i64 0, .int .i64 0, .int .i64 0] 46)).alloc (.cells #[.int .i64 2, .int .i64 0, .int .i64 0, .int .i64 1, .int .i64 0, .int .i64 0] 65)).alloc (.cells #[.slice (some ⟨w.heap.size + 1, 0, none⟩) 2 2] 66)).alloc (.cells #[.int .i64 0, .int .i64 3, .bool false] 68)).alloc (.cells #[.slice (some ⟨w.heap.size, 0, none⟩) 1 1, .slice (some ⟨w.heap.size + 1 + 1, 0, none⟩) 1 1, .slice (some ⟨w.heap.size + 1 + 1 + 1, 0, none⟩) 1 1, .slice none 0 0] 27)) := (Up.alloc (Up.alloc (Up.alloc (Up.alloc (Up.alloc (Up.refl w) (.cells #[.int .i64 1, .int .i64 2, .int .i64 1, .int .i64 1, .int .i64 0, .int .i64 0, .int .i64 0, .int .i64 0] 46)) (.cells #[.int .i64 2, .int .i64 0, .int .i64 0, .int .i64 1, .int .i64 0, .int .i64 0] 65)) (.cells #[.slice (some ⟨w.heap.size + 1, 0, none⟩) 2 2] 66)) (.cells #[.int .i64 0, .int .i64 3, .bool false] 68)) (.cells #[.slice (some ⟨w.heap.size, 0, none⟩) 1 1, .slice (some ⟨w.heap.size + 1 + 1, 0, none⟩) 1 1, .slice (some ⟨w.heap.size + 1 + 1 + 1, 0, none⟩) 1 1, .slice none 0 0] 27))
 obtain ⟨W0, hW0⟩ : ∃ x, (((((w.alloc (.cells #[.int .i64 1, .int .i64 2, .int .i64 1, .int .i64 1, .int .i64 0, .int .i64 0, .int .i64 0, .int .i64 0] 46)).alloc (.cells #[.int .i64 2, .int .i64 0, .int .i64 0, .int .i64 1, .int .i64 0, .int .i64 0] 65)).alloc (.cells #[.slice (some ⟨w.heap.size + 1, 0, none⟩) 2 2] 66)).alloc (.cells #[.int .i64 0, .int .i64 3, .bool false] 68)).alloc (.cells #[.slice (some ⟨w.heap.size, 0, none⟩) 1 1, .slice (some ⟨w.heap.size + 1 + 1, 0, none⟩) 1 1, .slice (some ⟨w.heap.size + 1 + 1 + 1, 0, none⟩) 1 1, .slice none 0 0] 27)) = x := ⟨_, rfl⟩
 rw [hW0] at h0 h1 h2 h3 h4 hu
 have hs : ScrAt W0 aliveSc ⟨some ⟨w.heap.size, 0, none⟩, 1, some ⟨w.heap.size + 1 + 1, 0, none⟩, 1, some ⟨w.heap.size + 1 + 1 + 1, 0, none⟩, 1, none, 0⟩ := by
  refine ⟨fun i hi => ?_, fun i hi => ?_, fun i hi => ?_, fun i hi => (by cases hi), fun _ => rfl, Nat.le_refl _, Nat.zero_le _⟩
  · match i, hi with
    | 0, _ => exact ⟨_, 0, rfl, ⟨blk_cells h0 0, blk_cells h0 1, blk_cells h0 2, blk_cells h0 3⟩, blk_cells h0 4, blk_cells h0 5, blk_cells h0 6, blk_cells h0 7⟩
  · match i, hi with
    | 0, _ =>
     refine ⟨_, 0, some ⟨w.heap.size + 1, 0, none⟩, 2, rfl, blk_cells h2 0, fun j hj => ?_, by decide, by decide, by decide, fun e => by cases e⟩
     match j, hj with
     | 0, _ => exact ⟨_, 0, rfl, blk_cells h1 0, blk_cells h1 1, blk_cells h1 2⟩
     | 1, _ => exact ⟨_, 0, rfl, blk_cells h1 3, blk_cells h1 4, blk_cells h1 5⟩
  · match i, hi with
    | 0, _ => exact ⟨_, 0, rfl, blk_cells h3 0, blk_cells h3 1, blk_cells h3 2⟩
 have HS := hQ' hs
 have HRUN := hQ' (fun (W : World) (u : Up W0 W) => alive_run W _ (hs.up u))
 have HNEW := hQ' (fun (W : World) (u : Up W0 W) => lk_new alive_sc W (hs.up u))
 have HK := hQ' (fun (W : World) (u : Up W0 W) => show W.cell? ⟨w.heap.size + 1 + 1 + 1 + 1, 0, none⟩ = some (.slice (some ⟨w.heap.size, 0, none⟩) 1 1) ∧ W.cell? ⟨w.heap.size + 1 + 1 + 1 + 1, 1, none⟩ = some (.slice (some ⟨w.heap.size + 1 + 1, 0, none⟩) 1 1) ∧ W.cell? ⟨w.heap.size + 1 + 1 + 1 + 1, 2, none⟩ = some (.slice (some ⟨w.heap.size + 1 + 1 + 1, 0, none⟩) 1 1) ∧ W.cell? ⟨w.heap.size + 1 + 1 + 1 + 1, 3, none⟩ = some (.slice none 0 0) from by
  have h := (u.block _ (Array.getElem?_eq_some_iff.1 h4).1).trans h4
  exact ⟨blk_cells h 0, blk_cells h 1, blk_cells h 2, blk_cells h 3⟩)
 have HU := hQ' hu
 have HW0 := hQ' hW0
 clear h0 h1 h2 h3 h4 hu hs hW0
 try clear h0
 try clear h1
 try clear h2
 try clear h3
 try clear h0
 try clear h1
 try clear h2
 try clear h3
 go_enter Tryz.func8, Tryz.ntmps8
 go_upto_region 2 with fail
 rw [HW0.out]
 obtain ⟨k0, k1, k2, k3⟩ := HK.out _ (Up.refl _)
 clear HW0
 go_wp2_with fail
 refine (HRUN.out _ (Up.refl _)).mono ?_
 rintro e w1 ⟨b, cap, A2, n2, c2, A3, n3, c3, A4, n4, c4, rfl, ⟨r1, r6⟩, hu1⟩
 clear k0 k1 k2 k3
 have hb1 := heap_alloc_new w1 (.cells #[.slice (some ⟨b, 0, none⟩) 7 cap, .int .i64 3, .slice A2 n2 c2, .slice A3 n3 c3, .slice A4 n4 c4] 32)
 have hu2 := (Up.refl w1).alloc (.cells #[.slice (some ⟨b, 0, none⟩) 7 cap, .int .i64 3, .slice A2 n2 c2, .slice A3 n3 c3, .slice A4 n4 c4] 32)
 obtain ⟨W1, hW1⟩ : ∃ x, w1.alloc (.cells #[.slice (some ⟨b, 0, none⟩) 7 cap, .int .i64 3, .slice A2 n2 c2, .slice A3 n3 c3, .slice A4 n4 c4] 32) = x := ⟨_, rfl⟩
 obtain ⟨rb, hrb⟩ : ∃ x, w1.heap.size = x := ⟨_, rfl⟩
 rw [hW1] at hb1 hu2
 rw [hrb] at hb1
 have HU1 := hQ' (hu1.trans hu2)
 have HR := hQ' (fun (W : World) (u : Up W1 W) => show (W.cell? ⟨rb, 0, none⟩ = some (.slice (some ⟨b, 0, none⟩) 7 cap) ∧ W.cell? ⟨rb, 1, none⟩ = some (.int .i64 3)) ∧ W.cell? ⟨b, 12, none⟩ = some (.int .i64 9) ∧ W.cell? ⟨b, 43, none⟩ = some (.int .i64 2) from by
  have h := (u.block _ (Array.getElem?_eq_some_iff.1 hb1).1).trans hb1
  have h1 := (hu2.cell (cell_lt r1)).trans r1
  have h6 := (hu2.cell (cell_lt r6)).trans r6
  exact ⟨⟨blk_cells h 0, blk_cells h 1⟩, (u.cell (cell_lt h1)).trans h1, (u.cell (cell_lt h6)).trans h6⟩)
 have HW1 := hQ' hW1
 have HRB := hQ' hrb
 clear hb1 hu2 r1 r6 hu1 hW1 hrb
 try clear hb1
 go_upto_region 3 with fail
 rw [HW1.out, HRB.out]
 clear HW1 HRB
 obtain ⟨k0, k1, k2, k3⟩ := HK.out _ HU1.out
 go_wp2_with fail
 refine (HNEW.out _ HU1.out).mono ?_
 rintro e w2 ⟨nb, nh, nB, nX, nov, ndv, ntv, npvs, rfl, hnp⟩
 have HU2 := hQ' hnp.up
 clear k0 k1 k2 k3 hnp
 obtain ⟨⟨y0, y1⟩, y2, y3⟩ := HR.out _ HU2.out
 go_wp2_with fail
 go_ret
 exact ⟨rfl, HU.out.trans (HU1.out.trans HU2.out)⟩
end Go.Proofs.YtpodgcpkccpnfaaGreat

namespace Go.Proofs.YtpodgcpkccpnfaaGreat
open Go.RowKit
theorem waitsP_take (l : List ActD) (t c : Int) {i : Nat} (h : i < l.length) : waitsP (l.take (i + 1)) t c = waitsStep t c (waitsP (l.take i) t c) (l.getD i act0) := by
 unfold waitsP
 rw [take_snoc (List.getElem?_eq_getElem h), List.foldl_append, List.getD_eq_getElem?_getD, List.getElem?_eq_getElem h]; rfl
theorem four_cases (a b x u y v z q : Int) : (a = b ∧ x = u ∧ y = v ∧ z = q) ∨ a ≠ b ∨ (a = b ∧ x ≠ u) ∨ (a = b ∧ x = u ∧ y ≠ v) ∨ (a = b ∧ x = u ∧ y = v ∧ z ≠ q) := by
 by_cases h1 : a = b
 · by_cases h2 : x = u
   · by_cases h3 : y = v
     · by_cases h4 : z = q
       · exact .inl ⟨h1, h2, h3, h4⟩
       · exact .inr (.inr (.inr (.inr ⟨h1, h2, h3, h4⟩)))
     · exact .inr (.inr (.inr (.inl ⟨h1, h2, h3⟩)))
   · exact .inr (.inr (.inl ⟨h1, h2⟩))
 · exact .inr (.inl h1)
theorem waits_any (l : List ActD) (A : Option Addr) (cp n : Nat) (t c : Int) (w : World) (hn : n ≤ l.length) (hl : l.length ≤ 100000000) (hr : ActsAt w A l) :
 Calls Tryz.prog 45 #[.slice A l.length cp, .int .i64 n, .int .i64 t, .int .i64 c] w fun e w' => e = .returned (.bool (waitsP (l.take n) t c)) ∧ Up w w' := by
 have HR := hQ' hr
 have HT := hQ' (fun i h => waitsP_take l t c (i := i) h)
 have HL := hQ' (And.intro hn hl)
 have HU0 := hQ' (Up.refl w)
 clear hr
 go_enter Tryz.func45, Tryz.ntmps45
 go_wp2_with fail
 go_loopw [9, 10] (fun k x wr => ∃ i : Nat, i ≤ n ∧ x = .int .i64 i ∧ k = .bool (waitsP (l.take i) t c) ∧ Hid (Up w wr)) (fun _ x _ => n - (intOf x).toNat)
 case atStart => exact ⟨0, by omega, rfl, rfl, HU0⟩
 case round =>
  obtain ⟨i, hi, rfl, rfl, HV⟩ := hrel
  by_cases hlt : i < n
  · have hii : (i : Int) < n := by omega
    have hil : (i : Int) < l.length := by omega
    have hi0 : (0 : Int) ≤ i := by omega
    obtain ⟨b, off, eA, hx⟩ := (HR.out.up HV.out) i (by omega)
    have hst := HT.out i (by omega)
    have hle : (i : Int) ≤ 100000000 := by omega
    have HLT := hQ' hlt
    rw [eA]
    generalize waitsP (l.take i) t c = k at *
    generalize l.getD i act0 = a at *
    have HBX := hQ' (act_box wr a 94)
    unfold actA at HBX
    obtain ⟨⟨x0, x1, x2, x3, x4, x5, x6⟩, y0, y1, y2⟩ := a
    have HST := hQ' hst
    obtain ⟨c0, c1, c2, c3, c4, c5, c6, c7, c8, c9⟩ := hx
    dsimp only at c0 c1 c2 c3 c4 c5 c6 c7 c8 c9 HBX
    have HU2 := hQ' (HV.out.trans ((Up.refl wr).alloc (.cells #[.int .i64 x0, .int .i64 x1, .int .i64 x2, .int .i64 x3, .int .i64 x4, .int .i64 x5, .int .i64 x6, .int .i64 y0, .int .i64 y1, .int .i64 y2] 94)))
    obtain ⟨d0, d1, d2, d3, d4, d5, d6, d7, d8, d9⟩ := HBX.out
    dsimp only at d0 d1 d2 d3 d4 d5 d6 d7 d8 d9
    simp only [Nat.zero_add] at d0 d1 d2 d3 d4 d5 d6 d7 d8 d9
    clear hlt hst HBX
    rcases four_cases x2 t x3 c x1 3 y0 1 with ⟨rfl, rfl, rfl, rfl⟩ | h | ⟨rfl, h⟩ | ⟨rfl, rfl, h⟩ | ⟨rfl, rfl, rfl, h⟩
    · have HSE : Hid (waitsP (l.take (i + 1)) x2 x3 = if x4 = 3 ∨ x4 = 4 then false else if x4 = 2 then true else k) := hQ' (HST.out.trans (if_pos ⟨rfl, rfl, rfl, rfl⟩))
      clear HST
      by_cases h2 : x4 = 2
      · subst h2
        have HVAL : Hid (waitsP (l.take (i + 1)) x2 x3 = true) := hQ' HSE.out
        go_wp2_with fail
        go_roundw
        case rel => exact ⟨i + 1, HLT.out, by first | rfl | go_num, by rw [HVAL.out], HU2⟩
        case measure => have := HLT.out; simp [intOf]; omega
      · by_cases h3 : x4 = 3
        · subst h3
          have HVAL : Hid (waitsP (l.take (i + 1)) x2 x3 = false) := hQ' HSE.out
          go_wp2_with fail
          go_roundw
          case rel => exact ⟨i + 1, HLT.out, by first | rfl | go_num, by rw [HVAL.out], HU2⟩
          case measure => have := HLT.out; simp [intOf]; omega
        · by_cases h4 : x4 = 4
          · subst h4
            have HVAL : Hid (waitsP (l.take (i + 1)) x2 x3 = false) := hQ' HSE.out
            go_wp2_with fail
            go_roundw
            case rel => exact ⟨i + 1, HLT.out, by first | rfl | go_num, by rw [HVAL.out], HU2⟩
            case measure => have := HLT.out; simp [intOf]; omega
          · have HVAL : Hid (waitsP (l.take (i + 1)) x2 x3 = k) := hQ' (HSE.out.trans (by rw [if_neg (by omega), if_neg h2]))
            have g3 : (x4 == 3) = false := by simpa using h3
            have g4 : (x4 == 4) = false := by simpa using h4
            go_wp2_with fail
            go_roundw
            case rel => exact ⟨i + 1, HLT.out, by first | rfl | go_num, by rw [HVAL.out], HU2⟩
            case measure => have := HLT.out; simp [intOf]; omega
    · have HVAL : Hid (waitsP (l.take (i + 1)) t c = k) := hQ' (HST.out.trans (if_neg (fun q => h q.1)))
      go_wp2_with fail
      go_roundw
      case rel => exact ⟨i + 1, HLT.out, by first | rfl | go_num, by rw [HVAL.out], HU2⟩
      case measure => have := HLT.out; simp [intOf]; omega
    · have HVAL : Hid (waitsP (l.take (i + 1)) x2 c = k) := hQ' (HST.out.trans (if_neg (fun q => h q.2.1)))
      go_wp2_with fail
      go_roundw
      case rel => exact ⟨i + 1, HLT.out, by first | rfl | go_num, by rw [HVAL.out], HU2⟩
      case measure => have := HLT.out; simp [intOf]; omega
    · have HVAL : Hid (waitsP (l.take (i + 1)) x2 x3 = k) := hQ' (HST.out.trans (if_neg (fun q => h q.2.2.1)))
      go_wp2_with fail
      go_roundw
      case rel => exact ⟨i + 1, HLT.out, by first | rfl | go_num, by rw [HVAL.out], HU2⟩
      case measure => have := HLT.out; simp [intOf]; omega
    · have HVAL : Hid (waitsP (l.take (i + 1)) x2 x3 = k) := hQ' (HST.out.trans (if_neg (fun q => h q.2.2.2)))
      go_wp2_with fail
      go_roundw
      case rel => exact ⟨i + 1, HLT.out, by first | rfl | go_num, by rw [HVAL.out], HU2⟩
      case measure => have := HLT.out; simp [intOf]; omega
  · have hie : i = n := by omega
    subst hie
    have hnl : ¬ ((i : Int) < i) := by omega
    have HVE := hQ' HV.out
    clear HV
    go_wp2_with fail
    go_ret
    exact ⟨rfl, HVE.out⟩
end Go.Proofs.YtpodgcpkccpnfaaGreat

namespace Go.Proofs.YtpodgcpkccpnfaaGreat
open Go.RowKit
theorem sumTo_in {f : Nat → Int} {K : Int} (hf : ∀ p, 0 ≤ f p ∧ f p ≤ K) : ∀ n : Nat, 0 ≤ sumTo f n ∧ sumTo f n ≤ n * K
 | 0 => by simp [sumTo]
 | n + 1 => by
  have h1 := sumTo_in hf n
  have h2 := hf n
  have : ((n + 1 : Nat) : Int) * K = n * K + K := by rw [Int.natCast_add, Int.add_mul]; simp
  rw [this]
  show 0 ≤ sumTo f n + f n ∧ sumTo f n + f n ≤ _
  omega
theorem thing_box (w : World) (t : ThingD) (T : TypeId) (j : Nat) : (w.alloc (.cells #[.int .i64 t.kind, .int .i64 t.alg, .int .i64 t.mode, .int .i64 t.room, .int .i64 t.arg, .int .i64 t.writer, .int .i64 t.reader, .int .i64 t.top] T)).cell? ⟨w.heap.size, j, none⟩ = (#[.int .i64 t.kind, .int .i64 t.alg, .int .i64 t.mode, .int .i64 t.room, .int .i64 t.arg, .int .i64 t.writer, .int .i64 t.reader, .int .i64 t.top] : Array Value)[j]? :=
 cell_of_row _ _ j _ _ _ (heap_alloc_new w _)
theorem excl_any {sc : ScD} {a : ScA} (l : List EvD) (A : Option Addr) (cp : Nat) (w : World) (hs : ScrAt w sc a) (hl : l.length ≤ 100000000) (hr : EvsAt w A l) (hin : ∀ i, i < l.length → ∃ t c, EvT sc.progs (l.getD i ev0) t c) (hn : sc.progs.length ≤ 8)
 (h0 : 0 < sc.things.length) (hk : (sc.things.getD 0 thing0).kind = 1) (hE : ExclP (actsOb sc.progs 0 l) sc.progs.length) :
 Calls Tryz.prog 19 #[.agg #[.slice a.TA sc.things.length a.tc, .slice a.PA sc.progs.length a.pc, .slice a.KA sc.picks.length a.kc, .slice a.DA sc.draws.length a.dc], .slice A l.length cp, .int .i64 0] w fun e w' => e = .returned (.bool true) ∧ Up w w' := by
 have HB0 : Hid (BoxS w (w.alloc (.cells (scrA sc a) 27)) (scrA sc a)) := hQ' ⟨Up.refl _⟩
 have HBB := hQ' (fun (wr : World) (h : BoxS w wr (scrA sc a)) => show wr.cell? ⟨w.heap.size, 0, none⟩ = some (.slice a.TA sc.things.length a.tc) ∧ wr.cell? ⟨w.heap.size, 1, none⟩ = some (.slice a.PA sc.progs.length a.pc) ∧ wr.cell? ⟨w.heap.size, 2, none⟩ = some (.slice a.KA sc.picks.length a.kc) ∧ wr.cell? ⟨w.heap.size, 3, none⟩ = some (.slice a.DA sc.draws.length a.dc) from ⟨h.cell 0, h.cell 1, h.cell 2, h.cell 3⟩)
 have HTH := hQ' (fun (W : World) (u : Up w W) => thing_any 0 W (hs.up u) h0)
 have HAC := hQ' (fun (W : World) (u : Up w W) => acts_any l A cp 0 W (hs.up u) hl (hr.up u) hin hn)
 have HO1 := hQ' (fun (W : World) => show Calls Tryz.prog 41 #[.int .i64 1, .slice (some ⟨W.heap.size, 0, none⟩) 4 4] (W.alloc (.cells #[.int .i64 1, .int .i64 2, .int .i64 3, .int .i64 5] 3)) (fun e w' => e = .returned (.bool true) ∧ w' = W.alloc (.cells #[.int .i64 1, .int .i64 2, .int .i64 3, .int .i64 5] 3)) from one_any 1 [1, 2, 3, 5] (some ⟨W.heap.size, 0, none⟩) 4 (W.alloc (.cells #[.int .i64 1, .int .i64 2, .int .i64 3, .int .i64 5] 3)) (by decide) (row_made W [1, 2, 3, 5] 3))
 have HEX := hQ' hE
 have HAL := hQ' (show (actsOb sc.progs 0 l).length ≤ 100000000 from by have h := acts_len sc.progs 0 l l.length; rw [List.take_length] at h; omega)
 have HN8 := hQ' hn
 have HLL := hQ' HAL.out
 generalize actsOb sc.progs 0 l = ac at *
 obtain ⟨T, hT⟩ : ∃ T, sc.things.getD 0 thing0 = T := ⟨_, rfl⟩
 rw [hT] at HTH hk
 obtain ⟨z0, z1, z2, z3, z4, z5, z6, z7⟩ := T
 have hk : z0 = 1 := hk
 subst hk
 unfold thingV at HTH
 dsimp only at HTH
 obtain ⟨c0, c1, c2, c3⟩ := HBB.out _ HB0.out
 unfold scrA at c0 c1 c2 c3
 have HUB := hQ' HB0.out.w
 unfold scrA at HUB
 clear hs hr hin hE hT hl hn h0
 go_enter Tryz.func19, Tryz.ntmps19
 go_wp2_with fail
 refine (HTH.out _ HUB.out).mono ?_
 rintro e w1 ⟨rfl, hu1⟩
 have HB1 := hQ' (HB0.out.go hu1)
 clear hu1 c0 c1 c2 c3 HUB
 have HTB := hQ' (fun j => thing_box w1 ⟨1, z1, z2, z3, z4, z5, z6, z7⟩ 46 j)
 have HUT := hQ' ((Up.refl w1).alloc (.cells #[.int .i64 1, .int .i64 z1, .int .i64 z2, .int .i64 z3, .int .i64 z4, .int .i64 z5, .int .i64 z6, .int .i64 z7] 46))
 obtain ⟨W2, hW2⟩ : ∃ x, w1.alloc (.cells #[.int .i64 1, .int .i64 z1, .int .i64 z2, .int .i64 z3, .int .i64 z4, .int .i64 z5, .int .i64 z6, .int .i64 z7] 46) = x := ⟨_, rfl⟩
 dsimp only at HTB
 rw [hW2] at HTB HUT
 have t0 : W2.cell? ⟨w1.heap.size, 0, none⟩ = some (.int .i64 1) := HTB.out 0
 have tl := cell_lt t0
 go_wp2_with fail
 refine (HO1.out W2).mono ?_
 rintro e w2 ⟨rfl, rfl⟩
 have HU3 := hQ' ((Up.refl W2).alloc (.cells #[.int .i64 1, .int .i64 2, .int .i64 3, .int .i64 5] 3))
 obtain ⟨W3, hW3⟩ : ∃ x, W2.alloc (.cells #[.int .i64 1, .int .i64 2, .int .i64 3, .int .i64 5] 3) = x := ⟨_, rfl⟩
 rw [hW3] at HU3 ⊢
 have t0 := (HU3.out.cell tl).trans t0
 have HB3 := hQ' (HB1.out.go (HUT.out.trans HU3.out))
 obtain ⟨c0, c1, c2, c3⟩ := HBB.out _ HB3.out
 clear hW3 hW2
 go_wp2_with fail
 refine (HAC.out _ HB3.out.w).mono ?_
 rintro e w4 ⟨⟨v, rfl, hrow⟩, hu4⟩
 obtain ⟨Aa, ca, rfl, hat⟩ := hrow.at'
 have HAT := hQ' hat
 have HB4 := hQ' (HB3.out.go hu4)
 have t0 := (hu4.cell (Nat.lt_of_lt_of_le tl HU3.out.size)).trans t0
 have HT0 := hQ' t0
 have HTL := hQ' (cell_lt t0)
 clear hrow hu4 c0 c1 c2 c3 hat
 obtain ⟨N, hN⟩ : ∃ N, ac.length = N := ⟨_, rfl⟩
 obtain ⟨pn, hpn⟩ : ∃ N, sc.progs.length = N := ⟨_, rfl⟩
 have HLA := hQ' hN
 have HAS := hQ' (fun (W : World) (u : Up w4 W) (m : Nat) (hm : m ≤ N) (p : Nat) (rd : Bool) => show Calls Tryz.prog 43 #[.slice Aa N ca, .int .i64 m, .int .i64 p, .bool rd] W (fun e w' => e = .returned (.int .i64 (hasP (ac.take m) p rd)) ∧ Up W w') from by
  have := has_any ac Aa ca m p rd W (by rw [HLA.out]; exact hm) (by rw [HLA.out, ← hN]; exact HLL.out) (HAT.out.up u)
  rw [HLA.out] at this; exact this)
 have HSM := hQ' (fun (m : Nat) (hm : m ≤ N) (p : Nat) => sumTo_in (f := fun p => hasP (ac.take m) p false) (K := 100000000) (fun p => by
  have := hasP_in ac p false m (by rw [HLA.out]; exact hm)
  have := HLL.out
  constructor <;> omega) p)
 have HIN := hQ' (fun (m : Nat) (hm : m ≤ N) (p : Nat) (rd : Bool) => show 0 ≤ hasP (ac.take m) p rd ∧ hasP (ac.take m) p rd ≤ 100000000 from by
  have := hasP_in ac p rd m (by rw [HLA.out]; exact hm)
  have := HLL.out
  constructor <;> omega)
 have HEY := hQ' (fun (m : Nat) (hm : m ≤ N) => show sumTo (fun p => hasP (ac.take m) p false) pn ≤ 1 from by have := HEX.out m (by rw [HLA.out]; exact hm); rw [hpn] at this; exact this)
 have HNB := hQ' (show N ≤ 100000000 by rw [← hN]; exact HLL.out)
 have HPB := hQ' (show pn ≤ 8 by rw [← hpn]; exact HN8.out)
 have HU5 := hQ' (Up.refl w4)
 have HCE := hQ' (fun (W : World) (u : Up w4 W) => show W.cell? ⟨w.heap.size, 1, none⟩ = some (.slice a.PA pn a.pc) ∧ W.cell? ⟨w1.heap.size, 0, none⟩ = some (.int .i64 1) from ⟨by rw [← hpn]; exact (HBB.out _ (HB4.out.go u)).2.1, (u.cell HTL.out).trans HT0.out⟩)
 clear HEX
 clear t0 tl
 simp only [hN]
 clear hN hpn
 go_wp2_with fail
 go_loopw [10] (fun x wr => ∃ m : Nat, m ≤ N ∧ x = .int .i64 ((m : Int) + 1) ∧ Hid (Up w4 wr)) (fun x _ => N + 1 - (intOf x).toNat)
 case atStart => exact ⟨0, by omega, by first | rfl | go_num, HU5⟩
 case round =>
  obtain ⟨m, hm, rfl, HV⟩ := hrel
  by_cases hlt : m < N
  · have hmi : (m : Int) + 1 ≤ N := by omega
    have hmb : (m : Int) + 1 ≤ 100000001 := by have := HNB.out; omega
    have hm0 : (0 : Int) ≤ m := by omega
    have HM := hQ' (show m + 1 ≤ N by omega)
    have hcast : (m : Int) + 1 = ((m + 1 : Nat) : Int) := by omega
    obtain ⟨M, hM⟩ : ∃ M, m + 1 = M := ⟨_, rfl⟩
    rw [hM] at hcast HM
    rw [hcast] at hmi hmb ⊢
    have HMM := hQ' hM
    clear hlt hm hm0 hcast hM
    go_wp2_with fail
    go_loopw [11, 12, 13] (fun x y p wq => ∃ k : Nat, k ≤ pn ∧ p = .int .i64 k ∧ x = .int .i64 (sumTo (fun p => hasP (ac.take M) p false) k) ∧ (∃ z : Int, y = .int .i64 z) ∧ Hid (Up w4 wq)) (fun _ _ p _ => pn - (intOf p).toNat)
    case atStart => exact ⟨0, by omega, rfl, rfl, ⟨0, rfl⟩, HV⟩
    case round =>
     obtain ⟨k, hk, rfl, rfl, ⟨z, rfl⟩, HQ⟩ := hrel
     obtain ⟨c1, t0⟩ := HCE.out _ HQ.out
     by_cases hlk : k < pn
     · have hki : (k : Int) < pn := by omega
       have hk0 : (0 : Int) ≤ k := by omega
       have hkb : (k : Int) ≤ 8 := by have := HPB.out; omega
       have hs := HSM.out M HM.out k
       have hh := HIN.out M HM.out k false
       have hsb : sumTo (fun p => hasP (ac.take M) p false) k ≤ 800000000 := by omega
       have HSS := hQ' (show sumTo (fun p => hasP (ac.take M) p false) (k + 1) = sumTo (fun p => hasP (ac.take M) p false) k + hasP (ac.take M) k false from rfl)
       have HK := hQ' hlk
       have HA1 := hQ' (fun W u => HAS.out W u M HM.out k false)
       have HA2 := hQ' (fun W u => HAS.out W u M HM.out k true)
       generalize sumTo (fun p => hasP (ac.take M) p false) k = S at *
       generalize hasP (ac.take M) k false = h at *
       generalize hasP (ac.take M) k true = h2 at *
       have hw1 : wrap64 (S + h) = S + h := IntWalk.wrap64_in _ (by omega)
       clear hlk hk hs
       go_wp2_with fail
       refine (HA1.out _ HQ.out).mono ?_
       rintro e w6 ⟨rfl, hu6⟩
       have HQ6 := hQ' (HQ.out.trans hu6)
       clear hu6 c1 t0 HQ
       go_wp2_with fail
       refine (HA2.out _ HQ6.out).mono ?_
       rintro e w7 ⟨rfl, hu7⟩
       have HQ7 := hQ' (HQ6.out.trans hu7)
       clear hu7
       go_wp2_with fail
       go_roundw
       case rel => exact ⟨k + 1, HK.out, by first | rfl | go_num, by rw [HSS.out], ⟨_, rfl⟩, HQ7⟩
       case measure => have := HK.out; simp [intOf]; omega
     · have hke : k = pn := by omega
       subst hke
       have hnl : ¬ ((k : Int) < k) := by omega
       have hle := HEY.out M HM.out
       have HQE := hQ' HQ.out
       generalize sumTo (fun p => hasP (ac.take M) p false) k = S at *
       have hnS : ¬ ((1 : Int) < S) := by omega
       clear HQ hlk hk
       go_wp2_with fail
       go_roundw
       case rel => exact ⟨M, by have := HM.out; omega, by first | rfl | go_num, HQE⟩
       case measure => have := HM.out; simp [intOf]; omega
  · have hme : m = N := by omega
    subst hme
    have hnl : ¬ ((m : Int) + 1 ≤ m) := by omega
    have HVE := hQ' (HB4.out.go HV.out).w
    clear HV
    go_wp2_with fail
    go_ret
    exact ⟨rfl, HVE.out⟩
end Go.Proofs.YtpodgcpkccpnfaaGreat

namespace Go.Proofs.YtpodgcpkccpnfaaGreat
open Go.RowKit
theorem getD_some {α : Type} (l : List α) {i : Nat} (h : i < l.length) (d : α) : l[i]? = some (l.getD i d) := by
 rw [List.getD_eq_getElem?_getD, List.getElem?_eq_getElem h]; rfl
theorem doors_any {sc : ScD} {a : ScA} (l : List EvD) (A : Option Addr) (cp : Nat) (w : World) (hs : ScrAt w sc a) (hl : l.length ≤ 100000000) (hr : EvsAt w A l) (hin : ∀ i, i < l.length → ∃ t c, EvT sc.progs (l.getD i ev0) t c) (hn : sc.progs.length ≤ 8)
 (h0 : 0 < sc.things.length) (hk : (sc.things.getD 0 thing0).kind = 1) (hk1 : (sc.things.getD 0 thing0).alg = 1) (hE : DoorsP (actsOb sc.progs 0 l)) :
 Calls Tryz.prog 20 #[.agg #[.slice a.TA sc.things.length a.tc, .slice a.PA sc.progs.length a.pc, .slice a.KA sc.picks.length a.kc, .slice a.DA sc.draws.length a.dc], .slice A l.length cp, .int .i64 0] w fun e w' => e = .returned (.bool true) ∧ Up w w' := by
 have HB0 : Hid (BoxS w (w.alloc (.cells (scrA sc a) 27)) (scrA sc a)) := hQ' ⟨Up.refl _⟩
 have HBB := hQ' (fun (wr : World) (h : BoxS w wr (scrA sc a)) => show wr.cell? ⟨w.heap.size, 0, none⟩ = some (.slice a.TA sc.things.length a.tc) ∧ wr.cell? ⟨w.heap.size, 1, none⟩ = some (.slice a.PA sc.progs.length a.pc) ∧ wr.cell? ⟨w.heap.size, 2, none⟩ = some (.slice a.KA sc.picks.length a.kc) ∧ wr.cell? ⟨w.heap.size, 3, none⟩ = some (.slice a.DA sc.draws.length a.dc) from ⟨h.cell 0, h.cell 1, h.cell 2, h.cell 3⟩)
 have HTH := hQ' (fun (W : World) (u : Up w W) => thing_any 0 W (hs.up u) h0)
 have HAC := hQ' (fun (W : World) (u : Up w W) => acts_any l A cp 0 W (hs.up u) hl (hr.up u) hin hn)
 have HEX := hQ' hE
 have HS := hQ' hs
 have HAL := hQ' (show (actsOb sc.progs 0 l).length ≤ 100000000 from by have h := acts_len sc.progs 0 l l.length; rw [List.take_length] at h; omega)
 have HN8 := hQ' hn
 have HLL := hQ' HAL.out
 generalize actsOb sc.progs 0 l = ac at *
 obtain ⟨T, hT⟩ : ∃ T, sc.things.getD 0 thing0 = T := ⟨_, rfl⟩
 rw [hT] at HTH hk hk1
 obtain ⟨z0, z1, z2, z3, z4, z5, z6, z7⟩ := T
 have hk : z0 = 1 := hk
 have hk1 : z1 = 1 := hk1
 subst hk hk1
 unfold thingV at HTH
 dsimp only at HTH
 obtain ⟨c0, c1, c2, c3⟩ := HBB.out _ HB0.out
 unfold scrA at c0 c1 c2 c3
 have HUB := hQ' HB0.out.w
 unfold scrA at HUB
 clear hs hr hin hE hT hl hn h0
 go_enter Tryz.func20, Tryz.ntmps20
 go_wp2_with fail
 refine (HTH.out _ HUB.out).mono ?_
 rintro e w1 ⟨rfl, hu1⟩
 have HB1 := hQ' (HB0.out.go hu1)
 clear hu1 c0 c1 c2 c3 HUB
 have HTB := hQ' (fun j => thing_box w1 ⟨1, 1, z2, z3, z4, z5, z6, z7⟩ 46 j)
 have HUT := hQ' ((Up.refl w1).alloc (.cells #[.int .i64 1, .int .i64 1, .int .i64 z2, .int .i64 z3, .int .i64 z4, .int .i64 z5, .int .i64 z6, .int .i64 z7] 46))
 obtain ⟨W2, hW2⟩ : ∃ x, w1.alloc (.cells #[.int .i64 1, .int .i64 1, .int .i64 z2, .int .i64 z3, .int .i64 z4, .int .i64 z5, .int .i64 z6, .int .i64 z7] 46) = x := ⟨_, rfl⟩
 dsimp only at HTB
 rw [hW2] at HTB HUT
 have t0 : W2.cell? ⟨w1.heap.size, 0, none⟩ = some (.int .i64 1) := HTB.out 0
 have t1 : W2.cell? ⟨w1.heap.size, 1, none⟩ = some (.int .i64 1) := HTB.out 1
 have tl := cell_lt t0
 have HB3 := hQ' (HB1.out.go HUT.out)
 obtain ⟨c0, c1, c2, c3⟩ := HBB.out _ HB3.out
 go_wp2_with fail
 refine (HAC.out _ HB3.out.w).mono ?_
 rintro e w4 ⟨⟨v, rfl, hrow⟩, hu4⟩
 obtain ⟨Aa, ca, rfl, hat⟩ := hrow.at'
 have HAT := hQ' hat
 have HB4 := hQ' (HB3.out.go hu4)
 clear hrow hu4 c0 c1 c2 c3 hat hW2 t0 t1 tl
 obtain ⟨N, hN⟩ : ∃ N, ac.length = N := ⟨_, rfl⟩
 obtain ⟨pn, hpn⟩ : ∃ N, sc.progs.length = N := ⟨_, rfl⟩
 have HLA := hQ' hN
 have HWS := hQ' (fun (W : World) (u : Up w4 W) (m : Nat) (hm : m ≤ N) (p c : Int) => show Calls Tryz.prog 45 #[.slice Aa N ca, .int .i64 m, .int .i64 p, .int .i64 c] W (fun e w' => e = .returned (.bool (waitsP (ac.take m) p c)) ∧ Up W w') from by
  have := waits_any ac Aa ca m p c W (by rw [HLA.out]; exact hm) (by rw [HLA.out, ← hN]; exact HLL.out) (HAT.out.up u)
  rw [HLA.out] at this; exact this)
 have HBG := hQ' (fun (W : World) (u : Up w4 W) (m : Nat) (hm : m ≤ N) (e : EvD) => show Calls Tryz.prog 44 #[.slice Aa N ca, .int .i64 m, .agg #[.int .i64 e.at', .int .i64 e.kind, .int .i64 e.thread, .int .i64 e.call, .int .i64 e.val, .int .i64 e.err, .int .i64 e.rep]] W (fun e' w' =>
  (∃ x, e' = .returned (.int .i64 x) ∧ (x = -1 ∨ ∃ k : Nat, x = k ∧ k < m ∧ isCall (ac.getD k act0).1 e)) ∧ Up W w') from by
  have := begun_any ac Aa ca m e W (by rw [HLA.out]; exact hm) (by rw [HLA.out, ← hN]; exact HLL.out) (HAT.out.up u)
  rw [HLA.out] at this; exact this)
 have HPR := hQ' (fun (W : World) (u : Up w4 W) (p : Nat) (hp : p < pn) => (HS.out.up (HB4.out.go u).w).pr p (by rw [hpn]; exact hp))
 have HNB := hQ' (show N ≤ 100000000 by rw [← hN]; exact HLL.out)
 have HPB := hQ' (show pn ≤ 8 by rw [← hpn]; exact HN8.out)
 have HU5 := hQ' (Up.refl w4)
 have HCE := hQ' (fun (W : World) (u : Up w4 W) => show W.cell? ⟨w.heap.size, 1, none⟩ = some (.slice a.PA pn a.pc) from by rw [← hpn]; exact (HBB.out _ (HB4.out.go u)).2.1)
 simp only [hN]
 clear hN hpn
 go_wp2_with fail
 go_loopw [9] (fun x wr => ∃ i : Nat, i ≤ N ∧ x = .int .i64 i ∧ Hid (Up w4 wr)) (fun x _ => N - (intOf x).toNat)
 case atStart => exact ⟨0, by omega, rfl, HU5⟩
 case round =>
  obtain ⟨i, hi, rfl, HV⟩ := hrel
  by_cases hlt : i < N
  · have hii : (i : Int) < N := by omega
    have hi0 : (0 : Int) ≤ i := by omega
    have hib : (i : Int) ≤ 100000000 := by have := HNB.out; omega
    obtain ⟨b, off, eA, hx⟩ := (HAT.out.up HV.out) i (by rw [HLA.out]; exact hlt)
    have HDX := hQ' (HEX.out i _ (getD_some ac (by rw [HLA.out]; exact hlt) act0))
    have HLT := hQ' hlt
    have HBC := hQ' (fun (k : Nat) (hk : k < i) (hc : isCall (ac.getD k act0).1 (ac.getD i act0).1) (h1 : (ac.getD i act0).2.1 = 1) (h2 : (ac.getD i act0).1.kind = 3) (h3 : (ac.getD i act0).1.val = 3) (p c : Int) => HDX.out h1 h2 h3 k _ hk (getD_some ac (by rw [HLA.out]; omega) act0) hc p c)
    have HBE := hQ' (HBG.out wr HV.out i hi (ac.getD i act0).1)
    have HX := hQ' (fun (W : World) (u : Up w4 W) => show ∃ b off, Aa = some ⟨b, off, none⟩ ∧ Act1 W b (off + i * 10) (ac.getD i act0) from (HAT.out.up u) i (by rw [HLA.out]; exact HLT.out))
    clear HDX
    generalize ac.getD i act0 = ai at *
    obtain ⟨⟨x0, x1, x2, x3, x4, x5, x6⟩, y0, y1, y2⟩ := ai
    obtain ⟨d0, d1, d2, d3, d4, d5, d6, d7, d8, d9⟩ := hx
    dsimp only at d0 d1 d2 d3 d4 d5 d6 d7 d8 d9 HBE
    rw [eA] at HBE ⊢
    clear hlt hi
    by_cases q1 : y0 = 1
    · by_cases q2 : x1 = 3
      · by_cases q3 : x4 = 3
        · subst q1; subst q2; subst q3
          have HBD := hQ' (fun (k : Nat) (hk : k < i) (hc : isCall (ac.getD k act0).1 ⟨x0, 3, x2, x3, 3, x5, x6⟩) => HBC.out k hk hc rfl rfl rfl)
          clear HBC
          go_wp2_with fail
          refine HBE.out.mono ?_
          rintro e w5 ⟨⟨x, rfl, hor⟩, hu5⟩
          have HV5 := hQ' (HV.out.trans hu5)
          clear d0 d1 d2 d3 d4 d5 d6 d7 d8 d9 hu5 HV HBE
          rcases hor with rfl | ⟨k, rfl, hk, hc⟩
          · go_wp2_with fail
            go_loopw [11] (fun p wq => p = .int .i64 0 ∧ Hid (Up w4 wq)) (fun _ _ => 0)
            case atStart => exact ⟨rfl, HV5⟩
            case round =>
             obtain ⟨rfl, HQ⟩ := hrel
             have c1 := HCE.out _ HQ.out
             by_cases hp0 : (0 : Int) < pn
             · go_wp2_with fail
               go_roundw
               case rel => exact ⟨i + 1, HLT.out, by first | rfl | go_num, HQ⟩
               case measure => have := HLT.out; simp [intOf]; omega
             · go_wp2_with fail
               go_roundw
               case rel => exact ⟨i + 1, HLT.out, by first | rfl | go_num, HQ⟩
               case measure => have := HLT.out; simp [intOf]; omega
          · have HK := hQ' (And.intro hk (HBD.out k hk hc))
            have hk0 : (0 : Int) ≤ k := by omega
            clear hk hc HBD
            go_wp2_with fail
            go_loopw [11] (fun p wq => ∃ q : Nat, q ≤ pn ∧ p = .int .i64 q ∧ Hid (Up w4 wq)) (fun p _ => pn - (intOf p).toNat)
            case atStart => exact ⟨0, by omega, rfl, HV5⟩
            case round =>
             obtain ⟨q, hq, rfl, HQ⟩ := hrel
             have c1 := HCE.out _ HQ.out
             by_cases hlq : q < pn
             · have hqi : (q : Int) < pn := by omega
               have hq0 : (0 : Int) ≤ q := by omega
               have hqb : (q : Int) ≤ 8 := by have := HPB.out; omega
               have HLQ := hQ' hlq
               have HQ0 := hQ' HQ.out
               clear hlq hq
               go_wp2_with fail
               go_loopw [12] (fun c wz => ∃ d : Nat, d ≤ (sc.progs.getD q []).length ∧ c = .int .i64 d ∧ Hid (Up w4 wz)) (fun c _ => (sc.progs.getD q []).length - (intOf c).toNat)
               case atStart => exact ⟨0, by omega, rfl, HQ0⟩
               case round =>
                obtain ⟨d, hd, rfl, HZ⟩ := hrel
                clear c1
                have c1 := HCE.out _ HZ.out
                obtain ⟨pb, poff, A', c', eP, p0, p1, p2, p3, p4⟩ := HPR.out _ HZ.out q HLQ.out
                rw [eP] at c1
                obtain ⟨n2, hn2⟩ : ∃ n, (sc.progs.getD q []).length = n := ⟨_, rfl⟩
                rw [hn2] at hd p0 p2 ⊢
                have HN2 := hQ' (show n2 ≤ 100000000 by omega)
                have HNN := hQ' hn2
                clear p1 p2 p3 p4 eP
                by_cases hld : d < n2
                · have hdi : (d : Int) < n2 := by omega
                  have hd0 : (0 : Int) ≤ d := by omega
                  have hdb : (d : Int) ≤ 100000000 := by have := HN2.out; omega
                  have HLD := hQ' hld
                  obtain ⟨b9, off9, eA9, hx9⟩ := HX.out _ HZ.out
                  rw [eA] at eA9
                  cases eA9
                  obtain ⟨d0, d1, d2, d3, d4, d5, d6, d7, d8, d9⟩ := hx9
                  dsimp only at d0 d1 d2 d3 d4 d5 d6 d7 d8 d9
                  have HW1 := hQ' (fun W u => HWS.out W u k (by have := HK.out.1; have := HLT.out; omega) q d)
                  have HW2 := hQ' (fun W u => HWS.out W u i (Nat.le_of_lt HLT.out) q d)
                  rw [eA] at HW1 HW2
                  clear hld hd
                  by_cases hqx : (q : Int) = x2
                  · subst hqx
                    have HZE := hQ' HZ.out
                    clear HZ
                    go_wp2_with fail
                    go_roundw
                    case rel => exact ⟨d + 1, HLD.out, by first | rfl | go_num, HZE⟩
                    case measure => have := HLD.out; have := HNN.out; simp [intOf]; omega
                  · have hne : ((q : Int) == x2) = false := by simpa using hqx
                    have HND := hQ' (HK.out.2 q d hq0 hqx)
                    generalize waitsP (ac.take k) q d = b1 at *
                    generalize waitsP (ac.take i) q d = b2 at *
                    go_wp2_with fail
                    refine (HW1.out _ HZ.out).mono ?_
                    rintro e w6 ⟨rfl, hu6⟩
                    have HZ6 := hQ' (HZ.out.trans hu6)
                    clear hu6 HZ c1 p0 d0 d1 d2 d3 d4 d5 d6 d7 d8 d9
                    cases b1
                    · go_wp2_with fail
                      go_roundw
                      case rel => exact ⟨d + 1, HLD.out, by first | rfl | go_num, HZ6⟩
                      case measure => have := HLD.out; have := HNN.out; simp [intOf]; omega
                    · cases b2
                      · go_wp2_with fail
                        refine (HW2.out _ HZ6.out).mono ?_
                        rintro e w7 ⟨rfl, hu7⟩
                        have HZ7 := hQ' (HZ6.out.trans hu7)
                        clear hu7 HZ6
                        go_wp2_with fail
                        go_roundw
                        case rel => exact ⟨d + 1, HLD.out, by first | rfl | go_num, HZ7⟩
                        case measure => have := HLD.out; have := HNN.out; simp [intOf]; omega
                      · exact absurd ⟨rfl, rfl⟩ HND.out
                · have hde : d = n2 := by omega
                  subst hde
                  have hnl : ¬ ((d : Int) < d) := by omega
                  have HZE := hQ' HZ.out
                  clear HZ hld hd
                  go_wp2_with fail
                  go_roundw
                  case rel => exact ⟨q + 1, HLQ.out, by first | rfl | go_num, HZE⟩
                  case measure => have := HLQ.out; simp [intOf]; omega
             · have hqe : q = pn := by omega
               subst hqe
               have hnl : ¬ ((q : Int) < q) := by omega
               have HQE := hQ' HQ.out
               clear HQ hlq hq
               go_wp2_with fail
               go_roundw
               case rel => exact ⟨i + 1, HLT.out, by first | rfl | go_num, HQE⟩
               case measure => have := HLT.out; simp [intOf]; omega
        · have g3 : (x4 == 3) = false := by simpa using q3
          subst q1; subst q2
          go_wp2_with fail
          go_roundw
          case rel => exact ⟨i + 1, HLT.out, by first | rfl | go_num, HV⟩
          case measure => have := HLT.out; simp [intOf]; omega
      · have g2 : (x1 == 3) = false := by simpa using q2
        subst q1
        go_wp2_with fail
        go_roundw
        case rel => exact ⟨i + 1, HLT.out, by first | rfl | go_num, HV⟩
        case measure => have := HLT.out; simp [intOf]; omega
    · have g1 : (y0 == 1) = false := by simpa using q1
      go_wp2_with fail
      go_roundw
      case rel => exact ⟨i + 1, HLT.out, by first | rfl | go_num, HV⟩
      case measure => have := HLT.out; simp [intOf]; omega
  · have hie : i = N := by omega
    subst hie
    have hnl : ¬ ((i : Int) < i) := by omega
    have HVE := hQ' (HB4.out.go HV.out).w
    clear HV
    go_wp2_with fail
    go_ret
    exact ⟨rfl, HVE.out⟩
end Go.Proofs.YtpodgcpkccpnfaaGreat

