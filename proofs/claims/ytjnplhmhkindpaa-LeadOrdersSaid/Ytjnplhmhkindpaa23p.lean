/- Plain law of layer 23: told round and round, in any order, the same servers make a table rule, or not. Conditions: none. -/
import Derived.Test.Ytjnplhmhkindpaa23j
namespace Go.Bd
open Go.Proofs
set_option linter.unusedVariables false
set_option linter.unusedSimpArgs false
set_option maxRecDepth 20000

def pickF (x n : Int) : Int := if x.tmod n < 0 then x.tmod n + n else x.tmod n
theorem pickF_in {x n : Int} (h : 1 ≤ n) : 0 ≤ pickF x n ∧ pickF x n < n := by
  have h1 : x.tmod n < n ∧ -n < x.tmod n := ⟨Int.tmod_lt_of_pos x (by omega), by have := Int.tmod_lt_of_pos (-x) (b := n) (by omega); rw [Int.neg_tmod] at this; omega⟩
  unfold pickF
  split <;> omega
theorem pickF_c {w : World} {x n : Int} (h : 1 ≤ n ∧ n ≤ 1000000000000000) : Calls Try.prog 7 #[.int .i64 x, .int .i64 n] w (Ret fun v w' => v = .int .i64 (pickF x n) ∧ w' = w) := by
  have h1 : x.tmod n < n ∧ -n < x.tmod n := ⟨Int.tmod_lt_of_pos x (by omega), by have := Int.tmod_lt_of_pos (-x) (b := n) (by omega); rw [Int.neg_tmod] at this; omega⟩
  refine Calls.of_vc Try.func7 rfl Try.ntmps7 rfl ?_
  repeat (first | refine VC.seq ?_ | refine VC.block ?_ | refine VC.skip ?_)
  refine VC.region ?_
  refine VR.pure rfl rfl (p_assignI rfl) ?_
  refine VR.nil ?_
  repeat (first | refine VC.seq ?_ | refine VC.block ?_ | refine VC.skip ?_)
  refine VC.region ?_
  refine VR.pure rfl rfl (p_moveI rfl) ?_
  refine VR.pure rfl rfl (p_lt rfl rfl) ?_
  refine VR.nil ?_
  repeat (first | refine VC.seq ?_ | refine VC.block ?_ | refine VC.skip ?_)
  refine VC.condD rfl (fun h2 => ?_) (fun h2 => ?_)
  · omega
  · repeat (first | refine VC.seq ?_ | refine VC.block ?_ | refine VC.skip ?_)
    refine VC.region ?_
    refine VR.pure rfl rfl (p_moveI rfl) ?_
    refine VR.pure rfl rfl (p_moveI rfl) ?_
    refine VR.pure rfl rfl (p_rem rfl rfl (by omega)) ?_
    refine VR.pure rfl rfl (p_assignI rfl) ?_
    refine VR.nil ?_
    repeat (first | refine VC.seq ?_ | refine VC.block ?_ | refine VC.skip ?_)
    refine VC.region ?_
    refine VR.pure rfl rfl (p_moveI rfl) ?_
    refine VR.pure rfl rfl (p_lt rfl rfl) ?_
    refine VR.nil ?_
    repeat (first | refine VC.seq ?_ | refine VC.block ?_ | refine VC.skip ?_)
    refine VC.condD rfl (fun h3 => ?_) (fun h3 => ?_)
    · repeat (first | refine VC.seq ?_ | refine VC.block ?_ | refine VC.skip ?_)
      refine VC.region ?_
      refine VR.pure rfl rfl (p_moveI rfl) ?_
      refine VR.pure rfl rfl (p_moveI rfl) ?_
      refine VR.pure rfl rfl (p_add64 rfl rfl (by omega)) ?_
      refine VR.pure rfl rfl (p_assignI rfl) ?_
      refine VR.nil ?_
      repeat (first | refine VC.seq ?_ | refine VC.block ?_ | refine VC.skip ?_)
      refine VC.region ?_
      refine VR.pure rfl rfl (p_moveI rfl) ?_
      refine VR.pure rfl rfl (p_assignI rfl) ?_
      refine VR.nil ?_
      repeat (first | refine VC.seq ?_ | refine VC.block ?_ | refine VC.skip ?_)
      refine VC.ret ⟨_, ResOf.r1 (v := .int _ _) rfl rfl, ?_⟩
      unfold pickF
      rw [if_pos h3]
      exact ⟨rfl, rfl⟩
    · repeat (first | refine VC.seq ?_ | refine VC.block ?_ | refine VC.skip ?_)
      refine VC.region ?_
      refine VR.pure rfl rfl (p_moveI rfl) ?_
      refine VR.pure rfl rfl (p_assignI rfl) ?_
      refine VR.nil ?_
      repeat (first | refine VC.seq ?_ | refine VC.block ?_ | refine VC.skip ?_)
      refine VC.ret ⟨_, ResOf.r1 (v := .int _ _) rfl rfl, ?_⟩
      unfold pickF
      rw [if_neg h3]
      exact ⟨rfl, rfl⟩

/-! ### What was told is not enough for more -/
structure OnC (a : Ta) : Prop where
  c1 : a.stage = 1 → qT a.es a.td (fun d => d.info) = false
  c2 : a.stage = 2 → qT a.es a.td (fun d => d.pr) = false
  c3 : a.stage = 3 → qT a.es a.td (fun d => d.nw) = false
theorem g1_c1 (a : Ta) : (g1 a).stage = 1 → qT (g1 a).es (g1 a).td (fun d => d.info) = false := by
  by_cases hq : a.stage = 1 ∧ qT a.es a.td (fun d => d.info) = true
  · have e : (g1 a).stage = 2 := by unfold g1; rw [if_pos hq]
    intro h
    omega
  · have e : g1 a = a := if_neg hq
    rw [e]
    exact fun h => Bool.not_eq_true _ |>.mp fun h2 => hq ⟨h, h2⟩
theorem g2_c (a : Ta) (h1 : a.stage = 1 → qT a.es a.td (fun d => d.info) = false) : ((g2 a).stage = 1 → qT (g2 a).es (g2 a).td (fun d => d.info) = false) ∧ ((g2 a).stage = 2 → qT (g2 a).es (g2 a).td (fun d => d.pr) = false) := by
  by_cases hq : a.stage = 2 ∧ qT a.es a.td (fun d => d.pr) = true
  · have e : (g2 a).stage = 3 := by unfold g2; rw [if_pos hq]
    exact ⟨fun h => by omega, fun h => by omega⟩
  · have e : g2 a = a := if_neg hq
    rw [e]
    exact ⟨h1, fun h => Bool.not_eq_true _ |>.mp fun h2 => hq ⟨h, h2⟩⟩
theorem on_C (a : Ta) : OnC (onA a) := by
  obtain ⟨h1, h2⟩ := g2_c (g1 a) (g1_c1 a)
  unfold onA
  generalize g2 (g1 a) = b at h1 h2
  by_cases hq : b.stage = 3 ∧ qT b.es b.td (fun d => d.nw) = true
  · have e : (g3 b).stage = 4 := by unfold g3; rw [if_pos hq]
    exact ⟨fun h => by omega, fun h => by omega, fun h => by omega⟩
  · have e : g3 b = b := if_neg hq
    rw [e]
    exact ⟨h1, h2, fun h => Bool.not_eq_true _ |>.mp fun h2 => hq ⟨h, h2⟩⟩
theorem on_ge (a : Ta) : a.stage ≤ (onA a).stage := by
  have h1 : a.stage ≤ (g1 a).stage := by
    by_cases hq : a.stage = 1 ∧ qT a.es a.td (fun d => d.info) = true
    · have e : (g1 a).stage = 2 := by unfold g1; rw [if_pos hq]
      omega
    · rw [show g1 a = a from if_neg hq]
      exact Int.le_refl _
  have h2 : (g1 a).stage ≤ (g2 (g1 a)).stage := by
    generalize g1 a = b
    by_cases hq : b.stage = 2 ∧ qT b.es b.td (fun d => d.pr) = true
    · have e : (g2 b).stage = 3 := by unfold g2; rw [if_pos hq]
      omega
    · rw [show g2 b = b from if_neg hq]
      exact Int.le_refl _
  have h3 : (g2 (g1 a)).stage ≤ (onA a).stage := by
    unfold onA
    generalize g2 (g1 a) = b
    by_cases hq : b.stage = 3 ∧ qT b.es b.td (fun d => d.nw) = true
    · have e : (g3 b).stage = 4 := by unfold g3; rw [if_pos hq]
      omega
    · rw [show g3 b = b from if_neg hq]
      exact Int.le_refl _
  omega
theorem g3_ge (b : Ta) : b.stage ≤ (g3 b).stage := by
  by_cases hq : b.stage = 3 ∧ qT b.es b.td (fun d => d.nw) = true
  · have e : (g3 b).stage = 4 := by unfold g3; rw [if_pos hq]
    omega
  · rw [show g3 b = b from if_neg hq]
    exact Int.le_refl _
theorem on_stay2 {b : Ta} (h : b.stage = 2) (h2 : (onA b).stage = 2) : onA b = b := by
  have e1 : g1 b = b := g1_no (by omega)
  by_cases hq : b.stage = 2 ∧ qT b.es b.td (fun d => d.pr) = true
  · have e : (g2 b).stage = 3 := by unfold g2; rw [if_pos hq]
    have h3 := g3_ge (g2 b)
    unfold onA at h2
    rw [e1] at h2
    omega
  · have e2 : g2 b = b := if_neg hq
    unfold onA
    rw [e1, e2]
    exact g3_no (by omega)
theorem on_stay3 {b : Ta} (h : b.stage = 3) (h2 : (onA b).stage = 3) : onA b = b := by
  have e1 : g1 b = b := g1_no (by omega)
  have e2 : g2 b = b := g2_no (by omega)
  unfold onA at h2 ⊢
  rw [e1, e2] at h2 ⊢
  by_cases hq : b.stage = 3 ∧ qT b.es b.td (fun d => d.nw) = true
  · have e : (g3 b).stage = 4 := by unfold g3; rw [if_pos hq]
    omega
  · exact if_neg hq
theorem com_same (a : Ta) : (comA a).id = a.id ∧ (comA a).cur = a.cur ∧ (comA a).last = a.last ∧ (comA a).es = a.es ∧ (comA a).stage = a.stage ∧ (comA a).ep = a.ep ∧ (comA a).td = a.td := by
  unfold comA
  split <;> exact ⟨rfl, rfl, rfl, rfl, rfl, rfl, rfl⟩

/-! ### What holds while a table is told -/
structure Li (id acc : Int) (es : List (Int × List Mb)) (all : List Int) (most : Int) (a : Ta) : Prop where
  inv : AInv a
  idE : a.id = id
  cur : 0 ≤ a.cur
  esE : a.stage ≤ 3 → a.es = es
  inf : ∀ k : Nat, 1 ≤ k → k < 8 → (a.td k).info = true → (k : Int) ∈ all
  allE : ∀ z ∈ all, (1 ≤ z ∧ z ≤ 7) ∧ (a.td z.toNat).info = true
  own : (a.td id.toNat).acc = acc
  accL : ∀ k, k < 8 → (a.td k).acc ≤ most
  ep : a.ep ≤ most + 1
  epl : 2 ≤ a.stage → acc + 1 ≤ a.ep
  two : 2 ≤ a.stage → allA es all = true
section
variable {id acc most : Int} {es : List (Int × List Mb)} {all : List Int} {a : Ta}
theorem updT_inf {td : Nat → Td} {k : Nat} {d : Td} (hd : d.info = (td k).info) : ∀ j, (updT td k d j).info = (td j).info := fun j => by
  unfold updT
  split
  · rename_i e
    rw [hd, e]
  · rfl
theorem Li.g1 (h : Li id acc es all most a) : Li id acc es all most (g1 a) := by
  have hI := h.inv.g1
  by_cases hq : a.stage = 1 ∧ qT a.es a.td (fun d => d.info) = true
  · have e : Go.Bd.g1 a = ⟨a.id, a.cur, a.last, a.es, 2, epAt a.td a.ep 8, updT a.td a.id.toNat { a.td a.id.toNat with pr := true }, a.prop, a.com⟩ := if_pos hq
    have hid := h.inv.id
    have hin := updT_inf (td := a.td) (k := a.id.toNat) (d := { a.td a.id.toNat with pr := true }) rfl
    have hac := updT_same (td := a.td) (k := a.id.toNat) (d := { a.td a.id.toNat with pr := true }) rfl
    have h8 := (epAt_le a.td a.ep 8).1 a.id.toNat (by omega)
    have he := h.esE (by omega)
    have hown := h.own
    rw [← h.idE] at hown
    rw [e] at hI ⊢
    refine ⟨hI, h.idE, h.cur, fun _ => he, fun k h1 h2 h3 => h.inf k h1 h2 ((hin k).symm.trans h3), fun z hz => ⟨(h.allE z hz).1, (hin z.toNat).trans (h.allE z hz).2⟩, (hac id.toNat).trans h.own, fun k hk => ?_, ?_, fun _ => ?_, fun _ => ?_⟩
    · show (updT a.td a.id.toNat _ k).acc ≤ most
      rw [hac]
      exact h.accL k hk
    · exact epAt_top h.ep 8 (Nat.le_refl _) fun j hj => by have := h.accL j hj; omega
    · show acc + 1 ≤ epAt a.td a.ep 8
      omega
    · have hq2 := hq.2
      unfold qT at hq2
      rw [he] at hq2
      refine all_more (fun z hz => ?_) hq2
      obtain ⟨k, h1, h2, h3, rfl⟩ := (idsT_mem _ _ _).1 hz
      exact h.inf k h1 h2 h3
  · rwa [show Go.Bd.g1 a = a from if_neg hq]
theorem Li.g2 (h : Li id acc es all most a) : Li id acc es all most (g2 a) := by
  have hI := h.inv.g2
  by_cases hq : a.stage = 2 ∧ qT a.es a.td (fun d => d.pr) = true
  · have e : Go.Bd.g2 a = ⟨a.id, a.cur, a.last, a.es, 3, a.ep, a.td, a.prop, a.com⟩ := if_pos hq
    rw [e] at hI ⊢
    exact ⟨hI, h.idE, h.cur, fun _ => h.esE (by omega), h.inf, h.allE, h.own, h.accL, h.ep, fun _ => h.epl (by omega), fun _ => h.two (by omega)⟩
  · rwa [show Go.Bd.g2 a = a from if_neg hq]
theorem Li.g3 (h : Li id acc es all most a) : Li id acc es all most (g3 a) := by
  have hI := h.inv.g3
  by_cases hq : a.stage = 3 ∧ qT a.es a.td (fun d => d.nw) = true
  · have e : Go.Bd.g3 a = ⟨a.id, a.cur, a.last, a.es.drop (a.es.length - 1), 4, a.ep, a.td, a.prop, a.last⟩ := if_pos hq
    rw [e] at hI ⊢
    exact ⟨hI, h.idE, h.cur, fun h4 => absurd h4 (by show ¬ ((4 : Int) ≤ 3); decide), h.inf, h.allE, h.own, h.accL, h.ep, fun _ => h.epl (by omega), fun _ => h.two (by omega)⟩
  · rwa [show Go.Bd.g3 a = a from if_neg hq]
theorem Li.on (h : Li id acc es all most a) : Li id acc es all most (onA a) := h.g1.g2.g3
theorem Li.com_ (h : Li id acc es all most a) : Li id acc es all most (comA a) := by
  obtain ⟨e1, e2, e3, e4, e5, e6, e7⟩ := com_same a
  exact ⟨h.inv.com_, e1.trans h.idE, by rw [e2]; exact h.cur, by rw [e5, e4]; exact h.esE, by rw [e7]; exact h.inf, by rw [e7]; exact h.allE, by rw [e7]; exact h.own, by rw [e7]; exact h.accL, by rw [e6]; exact h.ep, by rw [e5, e6]; exact h.epl, by rw [e5]; exact h.two⟩
theorem Li.same (h : Li id acc es all most a) {k : Nat} {d : Td} (hi : d.info = (a.td k).info) (ha : d.acc = (a.td k).acc) : Li id acc es all most (a.tell (updT a.td k d)) := by
  have hin := updT_inf hi
  have hac := updT_same ha
  refine ⟨h.inv.tell (hac _) fun j hj => by rw [hac]; exact h.inv.acc j hj, h.idE, h.cur, h.esE, fun k h1 h2 h3 => h.inf k h1 h2 ((hin k).symm.trans h3), fun z hz => ⟨(h.allE z hz).1, (hin z.toNat).trans (h.allE z hz).2⟩, (hac id.toNat).trans h.own, fun k hk => ?_, h.ep, h.epl, h.two⟩
  show (updT a.td _ d k).acc ≤ most
  rw [hac]
  exact h.accL k hk
theorem Li.prom (h : Li id acc es all most a) (frm : Int) : Li id acc es all most (promA a frm) := by
  unfold promA
  split
  · exact (h.same (k := frm.toNat) (d := tPr (a.td frm.toNat)) rfl rfl).on
  · exact h
theorem Li.ackN (h : Li id acc es all most a) (frm : Int) : Li id acc es all most (ackA a frm) := by
  unfold ackA
  split
  · exact (h.same (k := frm.toNat) (d := tNw (a.td frm.toNat) a.last) rfl rfl).on.com_
  · exact h
theorem Li.info (h : Li id acc es all most a) {frm n : Int} (hf : 1 ≤ frm ∧ frm ≤ 7) (hne : frm ≠ id) (hn : 0 ≤ n ∧ n < 50) : Li id acc es (all ++ [frm]) (max most n) (infoA a frm n) := by
  have hid := h.inv.id
  have hid2 := h.idE
  unfold infoA
  rw [if_pos ⟨hf.1, hf.2, by omega, hn.1, by omega⟩]
  refine Li.on ?_
  have hsub : ∀ z ∈ all, z ∈ all ++ [frm] := fun z hz => List.mem_append_left _ hz
  have hat : ∀ k : Nat, k ≠ frm.toNat → updT a.td frm.toNat ⟨true, n, (a.td frm.toNat).pr, (a.td frm.toNat).nw, (a.td frm.toNat).ack⟩ k = a.td k := fun k hk => if_neg hk
  have hat1 : updT a.td frm.toNat ⟨true, n, (a.td frm.toNat).pr, (a.td frm.toNat).nw, (a.td frm.toNat).ack⟩ frm.toNat = ⟨true, n, (a.td frm.toNat).pr, (a.td frm.toNat).nw, (a.td frm.toNat).ack⟩ := if_pos rfl
  refine ⟨h.inv.tell (by rw [hat _ (by omega)]) (updT_acc h.inv.acc ⟨hn.1, by show n ≤ _; omega⟩), h.idE, h.cur, h.esE, fun k h1 h2 h3 => ?_, fun z hz => ?_, ?_, fun k hk => ?_, ?_, h.epl, fun h2 => all_more hsub (h.two h2)⟩
  · by_cases e : k = frm.toNat
    · exact List.mem_append_right _ (List.mem_singleton.2 (by omega))
    · replace h3 : (updT a.td frm.toNat _ k).info = true := h3
      rw [hat k e] at h3
      exact hsub _ (h.inf k h1 h2 h3)
  · show _ ∧ (updT a.td frm.toNat _ z.toNat).info = true
    by_cases e : z.toNat = frm.toNat
    · rw [e, hat1]
      refine ⟨?_, rfl⟩
      rcases List.mem_append.1 hz with hz | hz
      · exact (h.allE z hz).1
      · rw [List.mem_singleton.1 hz]
        exact hf
    · rw [hat _ e]
      rcases List.mem_append.1 hz with hz | hz
      · exact h.allE z hz
      · exact absurd (by rw [List.mem_singleton.1 hz]) e
  · show (updT a.td frm.toNat _ id.toNat).acc = acc
    rw [hat _ (by omega)]
    exact h.own
  · show (updT a.td frm.toNat _ k).acc ≤ max most n
    by_cases e : k = frm.toNat
    · rw [e, hat1]
      show n ≤ max most n
      omega
    · rw [hat k e]
      have := h.accL k hk
      omega
  · show a.ep ≤ max most n + 1
    have := h.ep
    omega
theorem Li.start {cur last : Int} {os : List En} (h : NewOk id acc cur last os) : Li id acc (os.map En.abs) [id] acc (onA (newA id acc cur last (os.map En.abs) (tdN id.toNat acc))) := by
  have h1 := h.cid
  have h2 := h.ccur
  have h3 := h.cacc
  have hat1 : tdN id.toNat acc id.toNat = ⟨true, acc, false, false, -1⟩ := if_pos rfl
  have hat : ∀ k, k ≠ id.toNat → k < 8 → tdN id.toNat acc k = ⟨false, 0, false, false, -1⟩ := fun k hk h8 => by
    unfold tdN updT
    rw [if_neg hk]
    exact if_pos h8
  refine Li.on ⟨AInv.new h, rfl, h2.1, fun _ => rfl, fun k hk1 hk2 hk3 => ?_, fun z hz => ?_, ?_, fun k hk => ?_, ?_, fun h => absurd h (by show ¬ ((2 : Int) ≤ 1); decide), fun h => absurd h (by show ¬ ((2 : Int) ≤ 1); decide)⟩
  · by_cases e : k = id.toNat
    · exact List.mem_singleton.2 (by omega)
    · replace hk3 : (tdN id.toNat acc k).info = true := hk3
      rw [hat k e hk2] at hk3
      cases hk3
  · rw [List.mem_singleton.1 hz]
    refine ⟨h1, ?_⟩
    show (tdN id.toNat acc id.toNat).info = true
    rw [hat1]
  · show (tdN id.toNat acc id.toNat).acc = acc
    rw [hat1]
  · show (tdN id.toNat acc k).acc ≤ acc
    by_cases e : k = id.toNat
    · rw [e, hat1]
      exact Int.le_refl _
    · rw [hat k e hk]
      show (0 : Int) ≤ acc
      omega
  · show (0 : Int) ≤ acc + 1
    omega
theorem sub_ids {td : Nat → Td} {p : Td → Bool} (hr : ∀ z ∈ all, 1 ≤ z ∧ z ≤ 7) (h : ∀ z ∈ all, p (td z.toNat) = true) : ∀ z ∈ all, z ∈ idsT td p := fun z hz => by
  have h1 := hr z hz
  exact (idsT_mem _ _ _).2 ⟨z.toNat, by omega, by omega, h z hz, by omega⟩
theorem Li.three (h : Li id acc es all most a) (hc : OnC a) (hp : a.stage = 2 → ∀ z ∈ all, (a.td z.toNat).pr = true) (hA : allA es all = true) : 3 ≤ a.stage := by
  have hs := h.inv.stage
  refine Classical.byContradiction fun hn => ?_
  have he := h.esE (by omega)
  by_cases h1 : a.stage = 1
  · have := hc.c1 h1
    unfold qT at this
    rw [he, all_more (sub_ids (p := fun d => d.info) (fun z hz => (h.allE z hz).1) fun z hz => (h.allE z hz).2) hA] at this
    cases this
  · have h2 : a.stage = 2 := by omega
    have := hc.c2 h2
    unfold qT at this
    rw [he, all_more (sub_ids (p := fun d => d.pr) (fun z hz => (h.allE z hz).1) (hp h2)) hA] at this
    cases this
theorem Li.four (h : Li id acc es all most a) (hc : OnC a) (h3 : allA es all = true → 3 ≤ a.stage) (hp : a.stage = 3 → ∀ z ∈ all, (a.td z.toNat).nw = true) : a.stage = if allA es all = true then 4 else 1 := by
  have hs := h.inv.stage
  by_cases hA : allA es all = true
  · rw [if_pos hA]
    have h4 := h3 hA
    refine Classical.byContradiction fun hn => ?_
    have h5 : a.stage = 3 := by omega
    have := hc.c3 h5
    unfold qT at this
    rw [h.esE (by omega), all_more (sub_ids (p := fun d => d.nw) (fun z hz => (h.allE z hz).1) (hp h5)) hA] at this
    cases this
  · rw [if_neg hA]
    refine Classical.byContradiction fun hn => hA (h.two (by omega))
theorem info_C (hc : OnC a) (frm n : Int) : OnC (infoA a frm n) := by
  unfold infoA
  split
  · exact on_C _
  · exact hc
theorem prom_C (hc : OnC a) (frm : Int) : OnC (promA a frm) := by
  unfold promA
  split
  · exact on_C _
  · exact hc
theorem ack_C (hc : OnC a) (frm : Int) : OnC (ackA a frm) := by
  unfold ackA
  split
  · have h := on_C (a.tell (updT a.td frm.toNat (tNw (a.td frm.toNat) a.last)))
    generalize onA (a.tell (updT a.td frm.toNat (tNw (a.td frm.toNat) a.last))) = b at h
    obtain ⟨e1, e2, e3, e4, e5, e6, e7⟩ := com_same b
    exact ⟨by rw [e5, e4, e7]; exact h.c1, by rw [e5, e4, e7]; exact h.c2, by rw [e5, e4, e7]; exact h.c3⟩
  · exact hc
theorem ack_ge (a : Ta) (frm : Int) : a.stage ≤ (ackA a frm).stage := by
  unfold ackA
  split
  · rw [(com_same _).2.2.2.2.1]
    exact on_ge (a.tell _)
  · exact Int.le_refl _

/-! ### Who has promised, who has the news -/
def Pst (all : List Int) (lo i : Nat) (a : Ta) : Prop := a.stage = 2 → ∀ j z, lo ≤ j → j < i → all[j % all.length]? = some z → (a.td z.toNat).pr = true
def Nst (all : List Int) (s : Nat → Nat) (i : Nat) (a : Ta) : Prop := a.stage = 3 → ∀ j z, j < i → all[s j]? = some z → (a.td z.toNat).nw = true
theorem Pst.zero (all : List Int) (lo : Nat) (a : Ta) : Pst all lo 0 a := fun _ j z _ h => by omega
theorem Nst.zero (all : List Int) (s : Nat → Nat) (a : Ta) : Nst all s 0 a := fun _ j z h => by omega
theorem Pst.step {lo i : Nat} {frm : Int} (h : Pst all lo i a) (hf : 1 ≤ frm ∧ frm ≤ 7) (hi : lo ≤ i → all[i % all.length]? = some frm) : Pst all lo (i + 1) (promA a frm) := by
  intro h2 j z hj hji hz
  unfold promA at h2 ⊢
  by_cases hq : a.stage = 2 ∧ 1 ≤ frm ∧ frm ≤ 7
  · rw [if_pos hq] at h2 ⊢
    rw [on_stay2 (b := a.tell (updT a.td frm.toNat (tPr (a.td frm.toNat)))) hq.1 h2]
    show (updT a.td frm.toNat (tPr (a.td frm.toNat)) z.toNat).pr = true
    by_cases e : z.toNat = frm.toNat
    · rw [e]
      unfold updT
      rw [if_pos rfl]
      rfl
    · have e2 : updT a.td frm.toNat (tPr (a.td frm.toNat)) z.toNat = a.td z.toNat := if_neg e
      rw [e2]
      refine h hq.1 j z hj ?_ hz
      refine Classical.byContradiction fun hn => ?_
      obtain rfl : j = i := by omega
      rw [hi hj] at hz
      exact e (by rw [Option.some.inj hz])
  · rw [if_neg hq] at h2
    exact absurd ⟨h2, hf⟩ hq
theorem Nst.step {s : Nat → Nat} {i : Nat} {frm : Int} (h : Nst all s i a) (hf : 1 ≤ frm ∧ frm ≤ 7) (hi : all[s i]? = some frm) (h34 : (allA es all = true → 3 ≤ a.stage) ∧ (2 ≤ a.stage → allA es all = true)) : Nst all s (i + 1) (ackA a frm) := by
  intro h2 j z hji hz
  unfold ackA at h2 ⊢
  by_cases hq : (a.stage = 3 ∨ a.stage = 4) ∧ 1 ≤ frm ∧ frm ≤ 7
  · rw [if_pos hq] at h2 ⊢
    rw [(com_same _).2.2.2.2.1] at h2
    rw [(com_same _).2.2.2.2.2.2]
    have hge : a.stage ≤ _ := on_ge (a.tell (updT a.td frm.toNat (tNw (a.td frm.toNat) a.last)))
    have h3 : a.stage = 3 := by omega
    rw [on_stay3 (b := a.tell (updT a.td frm.toNat (tNw (a.td frm.toNat) a.last))) h3 h2]
    show (updT a.td frm.toNat (tNw (a.td frm.toNat) a.last) z.toNat).nw = true
    by_cases e : z.toNat = frm.toNat
    · rw [e]
      unfold updT
      rw [if_pos rfl]
      rfl
    · have e2 : updT a.td frm.toNat (tNw (a.td frm.toNat) a.last) z.toNat = a.td z.toNat := if_neg e
      rw [e2]
      refine h h3 j z ?_ hz
      refine Classical.byContradiction fun hn => ?_
      obtain rfl : j = i := by omega
      rw [hi] at hz
      exact e (by rw [Option.some.inj hz])
  · rw [if_neg hq] at h2
    exact absurd ⟨.inl h2, hf⟩ hq
theorem mod_at {n lo m : Nat} (hm : m < n) : ∃ j, lo ≤ j ∧ j < lo + n ∧ j % n = m := by
  have h1 := Nat.div_add_mod lo n
  have h2 := Nat.mod_lt lo (by omega : 0 < n)
  generalize lo / n = q at h1
  generalize lo % n = r at h1 h2
  by_cases h : r ≤ m
  · refine ⟨n * q + m, by omega, by omega, ?_⟩
    rw [Nat.mul_add_mod, Nat.mod_eq_of_lt hm]
  · refine ⟨n * (q + 1) + m, by rw [Nat.mul_add]; omega, by rw [Nat.mul_add]; omega, ?_⟩
    rw [Nat.mul_add_mod, Nat.mod_eq_of_lt hm]
theorem Pst.full {lo : Nat} (h : Pst all lo (lo + all.length) a) : a.stage = 2 → ∀ z ∈ all, (a.td z.toNat).pr = true := fun h2 z hz => by
  obtain ⟨m, hm, e⟩ := List.mem_iff_getElem.1 hz
  obtain ⟨j, h3, h4, h5⟩ := mod_at (lo := lo) hm
  exact h h2 j z h3 h4 (by rw [h5, List.getElem?_eq_getElem hm, e])
def sOf (way n j : Nat) : Nat := if way = 0 then n - 1 - j % n else j % n
theorem sOf_lt {way n j : Nat} (h : 0 < n) : sOf way n j < n := by
  have := Nat.mod_lt j h
  unfold sOf
  split <;> omega
theorem Nst.full {way lo : Nat} (h : Nst all (sOf way all.length) (lo + all.length) a) : a.stage = 3 → ∀ z ∈ all, (a.td z.toNat).nw = true := fun h2 z hz => by
  obtain ⟨m, hm, e⟩ := List.mem_iff_getElem.1 hz
  by_cases hw : way = 0
  · refine h h2 (all.length - 1 - m) z (by omega) ?_
    unfold sOf
    rw [if_pos hw, Nat.mod_eq_of_lt (by omega), show all.length - 1 - (all.length - 1 - m) = m by omega, List.getElem?_eq_getElem hm, e]
  · refine h h2 m z (by omega) ?_
    unfold sOf
    rw [if_neg hw, Nat.mod_eq_of_lt hm, List.getElem?_eq_getElem hm, e]
end

/-! ### Infos, one after the other, until that is enough -/
structure Gs where
  a : Ta
  all : List Int
  most : Int
def gStep (b : Int) (s : Gs) (x : Int × Int) : Gs := if x.1 = b then s else ⟨infoA s.a x.1 x.2, s.all ++ [x.1], max s.most x.2⟩
def gath (b : Int) : List (Int × Int) → Gs → Gs
  | [], s => s
  | x :: r, s => if 2 ≤ (gStep b s x).a.stage then gStep b s x else gath b r (gStep b s x)
def tells (xs ys : List Int) : List (Int × Int) := (xs.zip ys).map fun p => (1 + pickF p.1 7, pickF p.2 50)
theorem tells_drop {xs ys : List Int} {i : Nat} {x y : Int} (hx : xs[i]? = some x) (hy : ys[i]? = some y) : (tells xs ys).drop i = (1 + pickF x 7, pickF y 50) :: (tells xs ys).drop (i + 1) := by
  have h : (tells xs ys)[i]? = some (1 + pickF x 7, pickF y 50) := by
    unfold tells
    rw [List.getElem?_map, (List.getElem?_zip_eq_some (z := (x, y))).2 ⟨hx, hy⟩]
    rfl
  obtain ⟨hi, e⟩ := List.getElem?_eq_some_iff.1 h
  rw [List.drop_eq_getElem_cons hi, e]
theorem tells_end {xs ys : List Int} {n : Nat} (h : xs.length ≤ n) : (tells xs ys).drop n = [] := by
  refine List.drop_of_length_le ?_
  unfold tells
  rw [List.length_map, List.length_zip]
  omega
theorem gath_go {b : Int} {x : Int × Int} {r : List (Int × Int)} {s : Gs} (h : ¬ 2 ≤ (gStep b s x).a.stage) : gath b (x :: r) s = gath b r (gStep b s x) := if_neg h
theorem gath_stop {b : Int} {x : Int × Int} {r : List (Int × Int)} {s : Gs} (h : 2 ≤ (gStep b s x).a.stage) : gath b (x :: r) s = gStep b s x := if_pos h
theorem gStep_in {b : Int} {s : Gs} {x : Int × Int} (h : x.1 = b) : gStep b s x = s := if_pos h
theorem gStep_out {b : Int} {s : Gs} {x : Int × Int} (h : x.1 ≠ b) : gStep b s x = ⟨infoA s.a x.1 x.2, s.all ++ [x.1], max s.most x.2⟩ := if_neg h
end Go.Bd
