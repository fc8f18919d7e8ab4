/- Contracts of layer 23: what a table is told. Conditions: as each states. -/
import Derived.Test.Ytjnplhmhkindpaa23x
namespace Go.Bd
open Go.Proofs
set_option linter.unusedVariables false
set_option maxRecDepth 20000

/-! ### What holds of a table always -/
structure AInv (a : Ta) : Prop where
  id : 1 ≤ a.id ∧ a.id ≤ 7
  stage : 1 ≤ a.stage ∧ a.stage ≤ 4
  last : 0 ≤ a.last ∧ a.last < ((a.td a.id.toNat).acc + 1) * 4294967296
  acc : ∀ k, k < 8 → 0 ≤ (a.td k).acc ∧ (a.td k).acc ≤ 1073741822
  ep : 0 ≤ a.ep ∧ a.ep ≤ 1073741823
  two : 2 ≤ a.stage → a.last < a.ep * 4294967296
  prop : a.prop = 0 ∨ a.prop = 1
  com : 0 ≤ a.com
  four : a.stage = 4 → a.es.length = 1 ∧ a.com ≤ a.ep * 4294967296 + 1
  len : 1 ≤ a.es.length
def Ta.tell (a : Ta) (td : Nat → Td) : Ta := ⟨a.id, a.cur, a.last, a.es, a.stage, a.ep, td, a.prop, a.com⟩
theorem AInv.tell {a : Ta} (h : AInv a) {td : Nat → Td} (h1 : (td a.id.toNat).acc = (a.td a.id.toNat).acc) (h2 : ∀ k, k < 8 → 0 ≤ (td k).acc ∧ (td k).acc ≤ 1073741822) : AInv (a.tell td) :=
  ⟨h.id, h.stage, by show 0 ≤ a.last ∧ a.last < ((td a.id.toNat).acc + 1) * 4294967296; rw [h1]; exact h.last, h2, h.ep, h.two, h.prop, h.com, h.four, h.len⟩
theorem epAt_top {td : Nat → Td} {e m : Int} (he : e ≤ m) : ∀ k, k ≤ 8 → (∀ j, j < 8 → (td j).acc + 1 ≤ m) → epAt td e k ≤ m
  | 0, _, _ => he
  | k + 1, hk, h => by
    have h1 := epAt_top he k (by omega) h
    have h2 := h k (by omega)
    show max (epAt td e k) ((td k).acc + 1) ≤ m
    omega
theorem AInv.g1 {a : Ta} (h : AInv a) : AInv (g1 a) := by
  unfold Go.Bd.g1
  split
  · rename_i hq
    have hid := h.id
    have h1 := (epAt_le a.td a.ep 8)
    have h2 := h1.1 a.id.toNat (by omega)
    have h3 := epAt_top (td := a.td) (e := a.ep) (m := 1073741823) h.ep.2 8 (Nat.le_refl _) fun j hj => by have := (h.acc j hj).2; omega
    have hacc : ∀ k, ((updT a.td a.id.toNat { a.td a.id.toNat with pr := true }) k).acc = (a.td k).acc := fun k => by
      unfold updT
      split
      · rename_i e
        rw [e]
      · rfl
    have h5 := h.ep.1
    have h6 := h.last
    refine ⟨h.id, by show (1 : Int) ≤ 2 ∧ (2 : Int) ≤ 4; omega, ?_, fun k hk => ?_, by show 0 ≤ epAt a.td a.ep 8 ∧ epAt a.td a.ep 8 ≤ _; omega, fun _ => ?_, h.prop, h.com, fun h4 => absurd h4 (by show ¬ ((2 : Int) = 4); decide), h.len⟩
    · show 0 ≤ a.last ∧ a.last < ((updT a.td a.id.toNat _ a.id.toNat).acc + 1) * 4294967296
      rw [hacc]
      exact h.last
    · show 0 ≤ (updT a.td a.id.toNat _ k).acc ∧ (updT a.td a.id.toNat _ k).acc ≤ _
      rw [hacc]
      exact h.acc k hk
    · show a.last < epAt a.td a.ep 8 * 4294967296
      have : ((a.td a.id.toNat).acc + 1) * 4294967296 ≤ epAt a.td a.ep 8 * 4294967296 := Int.mul_le_mul_of_nonneg_right h2 (by decide)
      omega
  · exact h
theorem AInv.g2 {a : Ta} (h : AInv a) : AInv (g2 a) := by
  unfold Go.Bd.g2
  split
  · rename_i hq
    exact ⟨h.id, by show (1 : Int) ≤ 3 ∧ (3 : Int) ≤ 4; omega, h.last, h.acc, h.ep, fun _ => h.two (by omega), h.prop, h.com, fun h4 => absurd h4 (by show ¬ ((3 : Int) = 4); decide), h.len⟩
  · exact h
theorem AInv.g3 {a : Ta} (h : AInv a) : AInv (g3 a) := by
  unfold Go.Bd.g3
  split
  · rename_i hq
    have hl := h.len
    have hd : (a.es.drop (a.es.length - 1)).length = 1 := by rw [List.length_drop]; omega
    have h2 := h.two (by omega)
    exact ⟨h.id, by show (1 : Int) ≤ 4 ∧ (4 : Int) ≤ 4; omega, h.last, h.acc, h.ep, fun _ => h2, h.prop, h.last.1, fun _ => ⟨hd, by show a.last ≤ a.ep * 4294967296 + 1; omega⟩, by show 1 ≤ (a.es.drop (a.es.length - 1)).length; omega⟩
  · exact h
theorem AInv.on {a : Ta} (h : AInv a) : AInv (onA a) := h.g1.g2.g3
theorem AInv.com_ {a : Ta} (h : AInv a) : AInv (comA a) := by
  unfold comA
  split
  · rename_i hq
    have h1 := h.ep.1
    exact ⟨h.id, h.stage, h.last, h.acc, h.ep, h.two, h.prop, by show 0 ≤ a.ep * 4294967296 + 1; omega, fun h4 => ⟨(h.four h4).1, Int.le_refl _⟩, h.len⟩
  · exact h
theorem epoch_lt {z c : Int} (h : 0 ≤ z ∧ z ≤ 4611686018427387904) (he : epochZ z ≤ c) : z < (c + 1) * 4294967296 := by
  unfold epochZ at he
  rw [if_pos ⟨h.1, by rw [fdiv_nn h.1]; omega⟩, fdiv_nn h.1] at he
  omega
theorem AInv.new {id acc cur last : Int} {es : List En} (h : NewOk id acc cur last es) : AInv (newA id acc cur last (es.map En.abs) (tdN id.toNat acc)) := by
  have h1 := h.cid
  have h2 := h.ccur
  have h3 := h.cacc
  have h4 := epoch_lt ⟨h.clast.1, h.clast.2.1⟩ h.clast.2.2
  have h5 : (tdN id.toNat acc id.toNat).acc = acc := by
    unfold tdN updT
    rw [if_pos rfl]
  refine ⟨h1, by show (1 : Int) ≤ 1 ∧ (1 : Int) ≤ 4; omega, ?_, tdN_acc (by omega), by show (0 : Int) ≤ 0 ∧ (0 : Int) ≤ _; omega, fun h => ?_, .inl rfl, Int.le_refl _, fun h => absurd h (by show ¬ ((1 : Int) = 4); decide), ?_⟩
  · show 0 ≤ last ∧ last < ((tdN id.toNat acc id.toNat).acc + 1) * 4294967296
    rw [h5]
    have := h.clast.1
    omega
  · replace h : (2 : Int) ≤ 1 := h
    omega
  · show 1 ≤ (es.map En.abs).length
    rw [List.length_map]
    exact h.len.1

def tPr (d : Td) : Td := ⟨d.info, d.acc, true, d.nw, d.ack⟩
def tNw (d : Td) (l : Int) : Td := ⟨d.info, d.acc, d.pr, true, max d.ack l⟩
def infoA (a : Ta) (frm acc : Int) : Ta := if 1 ≤ frm ∧ frm ≤ 7 ∧ frm ≠ a.id ∧ 0 ≤ acc ∧ acc ≤ 1073741822 then
  onA (a.tell (updT a.td frm.toNat ⟨true, acc, (a.td frm.toNat).pr, (a.td frm.toNat).nw, (a.td frm.toNat).ack⟩)) else a
def promA (a : Ta) (frm : Int) : Ta := if a.stage = 2 ∧ 1 ≤ frm ∧ frm ≤ 7 then
  onA (a.tell (updT a.td frm.toNat (tPr (a.td frm.toNat)))) else a
def ackA (a : Ta) (frm : Int) : Ta := if (a.stage = 3 ∨ a.stage = 4) ∧ 1 ≤ frm ∧ frm ≤ 7 then
  comA (onA (a.tell (updT a.td frm.toNat (tNw (a.td frm.toNat) a.last)))) else a
theorem updT_acc {td : Nat → Td} {k : Nat} {d : Td} (h : ∀ k, k < 8 → 0 ≤ (td k).acc ∧ (td k).acc ≤ 1073741822) (hd : 0 ≤ d.acc ∧ d.acc ≤ 1073741822) : ∀ j, j < 8 → 0 ≤ (updT td k d j).acc ∧ (updT td k d j).acc ≤ 1073741822 := fun j hj => by
  unfold updT
  split
  · exact hd
  · exact h j hj
theorem updT_same {td : Nat → Td} {k : Nat} {d : Td} (hd : d.acc = (td k).acc) : ∀ j, (updT td k d j).acc = (td j).acc := fun j => by
  unfold updT
  split
  · rename_i e
    rw [hd, e]
  · rfl
theorem AInv.info {a : Ta} (h : AInv a) (frm acc : Int) : AInv (infoA a frm acc) := by
  unfold infoA
  split
  · rename_i hq
    refine (h.tell ?_ (updT_acc h.acc ⟨hq.2.2.2.1, hq.2.2.2.2⟩)).on
    unfold updT
    rw [if_neg (by have := h.id; omega)]
  · exact h
theorem AInv.prom {a : Ta} (h : AInv a) (frm : Int) : AInv (promA a frm) := by
  unfold promA
  split
  · exact (h.tell (td := updT a.td frm.toNat (tPr (a.td frm.toNat))) (updT_same (d := tPr (a.td frm.toNat)) rfl _) fun k hk => by rw [updT_same (d := tPr (a.td frm.toNat)) rfl]; exact h.acc k hk).on
  · exact h
theorem AInv.ackN {a : Ta} (h : AInv a) (frm : Int) : AInv (ackA a frm) := by
  unfold ackA
  split
  · exact (h.tell (td := updT a.td frm.toNat (tNw (a.td frm.toNat) a.last)) (updT_same (d := tNw (a.td frm.toNat) a.last) rfl _) fun k hk => by rw [updT_same (d := tNw (a.td frm.toNat) a.last) rfl]; exact h.acc k hk).on.com_
  · exact h

section
variable {F : Env} {w : World} {Ls : List Blks} {g : Nat} {T : Tb}
theorem stage_c (hm : Mem F w Ls) (hg : F.heap g = some T.ob) : Calls Try.prog 9 #[.pointer (some ⟨g, 0, none⟩)] w (Ret fun v w' => v = .int .u8 T.stage ∧ Mem F w' Ls) := by
  refine Calls.of_vc Try.func9 rfl Try.ntmps9 rfl ?_
  repeat (first | refine VC.seq ?_ | refine VC.block ?_ | refine VC.skip ?_)
  refine VC.region ?_
  refine VR.pure rfl rfl (p_assignI rfl) ?_
  refine VR.nil ?_
  repeat (first | refine VC.seq ?_ | refine VC.block ?_ | refine VC.skip ?_)
  refine VC.region ?_
  refine VR.pure rfl rfl (p_moveP rfl) ?_
  refine VR.pure rfl rfl (p_eqNilP Try.underlying29 rfl) ?_
  refine VR.nil ?_
  repeat (first | refine VC.seq ?_ | refine VC.block ?_ | refine VC.skip ?_)
  refine VC.condF rfl rfl ?_
  repeat (first | refine VC.seq ?_ | refine VC.block ?_ | refine VC.skip ?_)
  refine VC.region ?_
  refine VR.pure rfl rfl (p_moveP rfl) ?_
  refine VR.pure rfl rfl (p_nilCheck rfl) ?_
  refine VR.pure rfl rfl (p_field (fo := 4) Try.underlying47 rfl Try.sizeOf32 rfl rfl rfl) ?_
  refine VR.val rfl rfl (r_load (v := .int _ _) Try.isAgg32 rfl (hm.fix _ _ hg) rfl) ?_
  refine VR.pure rfl rfl (p_assignI rfl) ?_
  refine VR.nil ?_
  repeat (first | refine VC.seq ?_ | refine VC.block ?_ | refine VC.skip ?_)
  refine VC.ret ⟨_, ResOf.r1 (v := .int _ _) rfl rfl, ?_⟩
  exact ⟨rfl, hm⟩
theorem epochT_c (hm : Mem F w Ls) (hg : F.heap g = some T.ob) : Calls Try.prog 10 #[.pointer (some ⟨g, 0, none⟩)] w (Ret fun v w' => v = .int .i64 T.ep ∧ Mem F w' Ls) := by
  refine Calls.of_vc Try.func10 rfl Try.ntmps10 rfl ?_
  repeat (first | refine VC.seq ?_ | refine VC.block ?_ | refine VC.skip ?_)
  refine VC.region ?_
  refine VR.pure rfl rfl (p_assignI rfl) ?_
  refine VR.nil ?_
  repeat (first | refine VC.seq ?_ | refine VC.block ?_ | refine VC.skip ?_)
  refine VC.region ?_
  refine VR.pure rfl rfl (p_moveP rfl) ?_
  refine VR.pure rfl rfl (p_eqNilP Try.underlying29 rfl) ?_
  refine VR.nil ?_
  repeat (first | refine VC.seq ?_ | refine VC.block ?_ | refine VC.skip ?_)
  refine VC.condF rfl rfl ?_
  repeat (first | refine VC.seq ?_ | refine VC.block ?_ | refine VC.skip ?_)
  refine VC.region ?_
  refine VR.pure rfl rfl (p_moveP rfl) ?_
  refine VR.pure rfl rfl (p_nilCheck rfl) ?_
  refine VR.pure rfl rfl (p_field (fo := 5) Try.underlying47 rfl Try.sizeOf3 rfl rfl rfl) ?_
  refine VR.val rfl rfl (r_load (v := .int _ _) Try.isAgg3 rfl (hm.fix _ _ hg) rfl) ?_
  refine VR.pure rfl rfl (p_assignI rfl) ?_
  refine VR.nil ?_
  repeat (first | refine VC.seq ?_ | refine VC.block ?_ | refine VC.skip ?_)
  refine VC.ret ⟨_, ResOf.r1 (v := .int _ _) rfl rfl, ?_⟩
  exact ⟨rfl, hm⟩
theorem committed_c (hm : Mem F w Ls) (hg : F.heap g = some T.ob) : Calls Try.prog 18 #[.pointer (some ⟨g, 0, none⟩)] w (Ret fun v w' => v = .int .i64 T.com ∧ Mem F w' Ls) := by
  refine Calls.of_vc Try.func18 rfl Try.ntmps18 rfl ?_
  repeat (first | refine VC.seq ?_ | refine VC.block ?_ | refine VC.skip ?_)
  refine VC.region ?_
  refine VR.pure rfl rfl (p_assignI rfl) ?_
  refine VR.nil ?_
  repeat (first | refine VC.seq ?_ | refine VC.block ?_ | refine VC.skip ?_)
  refine VC.region ?_
  refine VR.pure rfl rfl (p_moveP rfl) ?_
  refine VR.pure rfl rfl (p_eqNilP Try.underlying29 rfl) ?_
  refine VR.nil ?_
  repeat (first | refine VC.seq ?_ | refine VC.block ?_ | refine VC.skip ?_)
  refine VC.condF rfl rfl ?_
  repeat (first | refine VC.seq ?_ | refine VC.block ?_ | refine VC.skip ?_)
  refine VC.region ?_
  refine VR.pure rfl rfl (p_moveP rfl) ?_
  refine VR.pure rfl rfl (p_nilCheck rfl) ?_
  refine VR.pure rfl rfl (p_field (fo := 47) Try.underlying47 rfl Try.sizeOf22 rfl rfl rfl) ?_
  refine VR.val rfl rfl (r_load (v := .int _ _) Try.isAgg22 rfl (hm.fix _ _ hg) rfl) ?_
  refine VR.pure rfl rfl (p_assignI rfl) ?_
  refine VR.nil ?_
  repeat (first | refine VC.seq ?_ | refine VC.block ?_ | refine VC.skip ?_)
  refine VC.ret ⟨_, ResOf.r1 (v := .int _ _) rfl rfl, ?_⟩
  exact ⟨rfl, hm⟩
set_option maxHeartbeats 4000000 in
theorem info_c {frm ac : Int} (hm : Mem F w ([(g, T.ob)] :: Ls)) (hT : TOk F.heap T) (hI : AInv T.abs) :
    Calls Try.prog 8 #[.pointer (some ⟨g, 0, none⟩), .int .i64 frm, .int .i64 ac] w (Ret fun v w' => ∃ T', v = .int .u8 T'.stage ∧ T'.abs = infoA T.abs frm ac ∧ TOk F.heap T' ∧ Mem F w' ([(g, T'.ob)] :: Ls)) := by
  obtain ⟨id, cur, last, A, n, c, es, stage, ep, td, prop, com⟩ := T
  have hst : 1 ≤ stage ∧ stage ≤ 4 := hI.stage
  have hacc : ∀ k, k < 8 → 0 ≤ (td k).acc ∧ (td k).acc ≤ 1073741822 := hI.acc
  replace hm : Mem F w ([(g, tOb id cur last A n c stage ep td prop com)] :: Ls) := hm
  refine Calls.of_vc Try.func8 rfl Try.ntmps8 rfl ?_
  repeat (first | refine VC.seq ?_ | refine VC.block ?_ | refine VC.skip ?_)
  refine VC.region ?_
  refine VR.pure rfl rfl (p_assignI rfl) ?_
  refine VR.nil ?_
  repeat (first | refine VC.seq ?_ | refine VC.block ?_ | refine VC.skip ?_)
  refine VC.region ?_
  refine VR.pure rfl rfl (p_moveP rfl) ?_
  refine VR.pure rfl rfl (p_eqNilP Try.underlying29 rfl) ?_
  refine VR.pure rfl rfl (p_moveB rfl) ?_
  refine VR.knownF 9 rfl rfl ?_
  refine VR.pureG rfl rfl (p_moveP rfl) ?_
  refine VR.pureG rfl rfl (p_nilCheck rfl) ?_
  refine VR.pureG rfl rfl (p_field (fo := 4) Try.underlying47 rfl Try.sizeOf32 rfl rfl rfl) ?_
  refine VR.valG rfl rfl (r_load (v := .int _ _) Try.isAgg32 rfl (hm.at_ 0 0 rfl) rfl) ?_
  refine VR.pureG rfl rfl (p_eq rfl rfl) ?_
  refine VR.pure rfl rfl (p_pickF rfl rfl) ?_
  refine VR.nil ?_
  repeat (first | refine VC.seq ?_ | refine VC.block ?_ | refine VC.skip ?_)
  refine VC.condF rfl (decide_eq_false (by omega)) ?_
  repeat (first | refine VC.seq ?_ | refine VC.block ?_ | refine VC.skip ?_)
  refine VC.region ?_
  refine VR.pure rfl rfl (p_moveP rfl) ?_
  refine VR.pure rfl rfl (p_nilCheck rfl) ?_
  refine VR.pure rfl rfl (p_field (fo := 4) Try.underlying47 rfl Try.sizeOf32 rfl rfl rfl) ?_
  refine VR.val rfl rfl (r_load (v := .int _ _) Try.isAgg32 rfl (hm.at_ 0 0 rfl) rfl) ?_
  refine VR.pure rfl rfl (p_ne rfl rfl) ?_
  refine VR.pure rfl rfl (p_moveB rfl) ?_
  refine VR.knownT 21 rfl (decide_eq_true (by omega)) ?_
  refine VR.pureG rfl rfl (p_moveI rfl) ?_
  refine VR.callG rfl rfl (r_call1 Try.call22 rfl) (server_c) ?_
  rintro _ _ ⟨rfl, rfl⟩
  refine VR.pure rfl rfl (p_pickT rfl rfl) ?_
  refine VR.pure rfl rfl (p_moveB rfl) ?_
  refine VR.splitD 25 rfl (fun q9 => ?_) (fun q9 => ?_)
  refine VR.pureG rfl rfl (p_moveI rfl) ?_
  refine VR.pureG rfl rfl (p_moveP rfl) ?_
  refine VR.pureG rfl rfl (p_nilCheck rfl) ?_
  refine VR.pureG rfl rfl (p_field (fo := 0) Try.underlying47 rfl Try.sizeOf3 rfl rfl rfl) ?_
  refine VR.valG rfl rfl (r_load (v := .int _ _) Try.isAgg3 rfl (hm.at_ 0 0 rfl) rfl) ?_
  refine VR.pureG rfl rfl (p_ne rfl rfl) ?_
  refine VR.pure rfl rfl (p_pickT rfl rfl) ?_
  refine VR.pure rfl rfl (p_moveB rfl) ?_
  refine VR.splitD 33 rfl (fun q17 => ?_) (fun q17 => ?_)
  refine VR.pureG rfl rfl (p_moveI rfl) ?_
  refine VR.pureG rfl rfl (p_ge rfl rfl) ?_
  refine VR.pure rfl rfl (p_pickT rfl rfl) ?_
  refine VR.pure rfl rfl (p_moveB rfl) ?_
  refine VR.splitD 37 rfl (fun q21 => ?_) (fun q21 => ?_)
  refine VR.pureG rfl rfl (p_moveI rfl) ?_
  refine VR.pureG rfl rfl (p_le rfl rfl) ?_
  refine VR.pure rfl rfl (p_pickT rfl rfl) ?_
  refine VR.nil ?_
  rotate_left 1
  refine VR.pass rfl rfl ?_
  refine VR.pass rfl rfl ?_
  refine VR.pure rfl rfl (p_pickF rfl rfl) ?_
  refine VR.nil ?_
  rotate_left 1
  refine VR.pass rfl rfl ?_
  refine VR.pass rfl rfl ?_
  refine VR.pure rfl rfl (p_pickF rfl rfl) ?_
  refine VR.pure rfl rfl (p_moveB rfl) ?_
  refine VR.pass rfl rfl ?_
  refine VR.pass rfl rfl ?_
  refine VR.pure rfl rfl (p_pickF rfl rfl) ?_
  refine VR.nil ?_
  rotate_left 1
  refine VR.pass rfl rfl ?_
  refine VR.pass rfl rfl ?_
  refine VR.pass rfl rfl ?_
  refine VR.pass rfl rfl ?_
  refine VR.pass rfl rfl ?_
  refine VR.pass rfl rfl ?_
  refine VR.pure rfl rfl (p_pickF rfl rfl) ?_
  refine VR.pure rfl rfl (p_moveB rfl) ?_
  refine VR.pass rfl rfl ?_
  refine VR.pass rfl rfl ?_
  refine VR.pure rfl rfl (p_pickF rfl rfl) ?_
  refine VR.pure rfl rfl (p_moveB rfl) ?_
  refine VR.pass rfl rfl ?_
  refine VR.pass rfl rfl ?_
  refine VR.pure rfl rfl (p_pickF rfl rfl) ?_
  refine VR.nil ?_
  rotate_left 1
  · repeat (first | refine VC.seq ?_ | refine VC.block ?_ | refine VC.skip ?_)
    refine VC.condD rfl (fun q24 => ?_) (fun q24 => ?_)
    · obtain ⟨kf, rfl, hk8⟩ : ∃ q : Nat, frm = q ∧ q < 8 := ⟨frm.toNat, by omega, by omega⟩
      have hst1 := ts_info (id := id) (cur := cur) (last := last) (A := A) (n := n) (c := c) (stage := stage) (ep := ep) (td := td) (prop := prop) (com := com) true kf hk8
      have hst2 := ts_acc (id := id) (cur := cur) (last := last) (A := A) (n := n) (c := c) (stage := stage) (ep := ep) (td := updT td kf { td kf with info := true }) (prop := prop) (com := com) ac kf hk8
      have htd : updT (updT td kf { td kf with info := true }) kf { updT td kf { td kf with info := true } kf with acc := ac } = updT td kf ⟨true, ac, (td kf).pr, (td kf).nw, (td kf).ack⟩ := funext fun j => by
        unfold updT
        by_cases e : j = kf
        · subst e
          rw [if_pos rfl, if_pos rfl, if_pos rfl]
        · rw [if_neg e, if_neg e, if_neg e]
      rw [htd] at hst2
      repeat (first | refine VC.seq ?_ | refine VC.block ?_ | refine VC.skip ?_)
      refine VC.loud (Kept F []) [9, 14] rfl (by kernel_rfl) (Kept.of0 hm.drew) ?_
      replace hm := hm.drew
      refine VL.pure rfl rfl rfl (p_moveP rfl) ?_
      refine VL.pure rfl rfl rfl (p_moveI rfl) ?_
      refine VL.pure rfl rfl rfl (p_moveP rfl) ?_
      refine VL.pure rfl rfl rfl (p_moveI rfl) ?_
      refine VL.pure rfl rfl rfl (p_moveI rfl) ?_
      refine VL.pure rfl rfl rfl (p_nilCheck rfl) ?_
      refine VL.pure rfl rfl rfl (p_field (fo := 6) Try.underlying47 rfl Try.sizeOf45 rfl rfl rfl) ?_
      refine VL.pure rfl rfl rfl (p_idxA Try.underlying45 Try.sizeOf44 rfl rfl hk8) ?_
      refine VL.pure rfl rfl rfl (p_field (fo := 0) Try.underlying44 rfl Try.sizeOf4 rfl rfl rfl) ?_
      refine VL.store (cs' := (tcl id cur last A n c stage ep (updT td kf { td kf with info := true }) prop com)) (v := .bool _) Try.sizeOf4 rfl rfl rfl rfl rfl rfl hm 0 0 rfl (by show 0 + 6 + kf * 5 + 0 + 1 ≤ 48; omega) hst1 (fun w' hm' => Kept.of0 hm') ?_
      intro w hm
      refine VL.pure rfl rfl rfl (p_nilCheck rfl) ?_
      refine VL.pure rfl rfl rfl (p_field (fo := 6) Try.underlying47 rfl Try.sizeOf45 rfl rfl rfl) ?_
      refine VL.pure rfl rfl rfl (p_idxA Try.underlying45 Try.sizeOf44 rfl rfl hk8) ?_
      refine VL.pure rfl rfl rfl (p_field (fo := 1) Try.underlying44 rfl Try.sizeOf3 rfl rfl rfl) ?_
      refine VL.store (cs' := (tcl id cur last A n c stage ep (updT td kf ⟨true, ac, (td kf).pr, (td kf).nw, (td kf).ack⟩) prop com)) (v := .int _ _) Try.sizeOf3 rfl rfl rfl rfl rfl rfl hm 0 0 rfl (by show 0 + 6 + kf * 5 + 1 + 1 ≤ 48; omega) hst2 (fun w' hm' => Kept.of0 hm') ?_
      intro w hm
      refine VL.nil ?_
      repeat (first | refine VC.seq ?_ | refine VC.block ?_ | refine VC.skip ?_)
      refine VC.region ?_
      refine VR.pure rfl rfl (p_moveP rfl) ?_
      refine VR.call rfl rfl (r_call1 Try.call26 rfl) (on_c (T0 := ⟨id, cur, last, A, n, c, es, stage, ep, updT td kf ⟨true, ac, (td kf).pr, (td kf).nw, (td kf).ack⟩, prop, com⟩) hm ⟨hT.row, hT.n, hT.nc, hT.c, hT.id, updT_acc hacc ⟨by show 0 ≤ ac; omega, by show ac ≤ _; omega⟩⟩ hst.2) ?_
      rintro _ w ⟨T', hab, hT', hm⟩
      refine VR.nil ?_
      repeat (first | refine VC.seq ?_ | refine VC.block ?_ | refine VC.skip ?_)
      repeat (first | refine VC.seq ?_ | refine VC.block ?_ | refine VC.skip ?_)
      refine VC.region ?_
      refine VR.pure rfl rfl (p_moveP rfl) ?_
      refine VR.pure rfl rfl (p_nilCheck rfl) ?_
      refine VR.pure rfl rfl (p_field (fo := 4) Try.underlying47 rfl Try.sizeOf32 rfl rfl rfl) ?_
      refine VR.val rfl rfl (r_load (v := .int _ _) Try.isAgg32 rfl (hm.at_ 0 0 rfl) rfl) ?_
      refine VR.pure rfl rfl (p_assignI rfl) ?_
      refine VR.nil ?_
      repeat (first | refine VC.seq ?_ | refine VC.block ?_ | refine VC.skip ?_)
      refine VC.ret ⟨_, ResOf.r1 (v := .int _ _) rfl rfl, ?_⟩
      refine ⟨T', rfl, ?_, hT', hm⟩
      rw [hab]
      unfold infoA
      rw [if_pos (by show 1 ≤ (kf : Int) ∧ (kf : Int) ≤ 7 ∧ (kf : Int) ≠ id ∧ 0 ≤ ac ∧ ac ≤ 1073741822; omega)]
      rfl
    · repeat (first | refine VC.seq ?_ | refine VC.block ?_ | refine VC.skip ?_)
      repeat (first | refine VC.seq ?_ | refine VC.block ?_ | refine VC.skip ?_)
      refine VC.region ?_
      refine VR.pure rfl rfl (p_moveP rfl) ?_
      refine VR.pure rfl rfl (p_nilCheck rfl) ?_
      refine VR.pure rfl rfl (p_field (fo := 4) Try.underlying47 rfl Try.sizeOf32 rfl rfl rfl) ?_
      refine VR.val rfl rfl (r_load (v := .int _ _) Try.isAgg32 rfl (hm.at_ 0 0 rfl) rfl) ?_
      refine VR.pure rfl rfl (p_assignI rfl) ?_
      refine VR.nil ?_
      repeat (first | refine VC.seq ?_ | refine VC.block ?_ | refine VC.skip ?_)
      refine VC.ret ⟨_, ResOf.r1 (v := .int _ _) rfl rfl, ?_⟩
      refine ⟨⟨id, cur, last, A, n, c, es, stage, ep, td, prop, com⟩, rfl, ?_, hT, hm⟩
      unfold infoA
      rw [if_neg (by show ¬ (1 ≤ frm ∧ frm ≤ 7 ∧ frm ≠ id ∧ 0 ≤ ac ∧ ac ≤ 1073741822); omega)]
  · repeat (first | refine VC.seq ?_ | refine VC.block ?_ | refine VC.skip ?_)
    refine VC.condF rfl rfl ?_
    repeat (first | refine VC.seq ?_ | refine VC.block ?_ | refine VC.skip ?_)
    repeat (first | refine VC.seq ?_ | refine VC.block ?_ | refine VC.skip ?_)
    refine VC.region ?_
    refine VR.pure rfl rfl (p_moveP rfl) ?_
    refine VR.pure rfl rfl (p_nilCheck rfl) ?_
    refine VR.pure rfl rfl (p_field (fo := 4) Try.underlying47 rfl Try.sizeOf32 rfl rfl rfl) ?_
    refine VR.val rfl rfl (r_load (v := .int _ _) Try.isAgg32 rfl (hm.at_ 0 0 rfl) rfl) ?_
    refine VR.pure rfl rfl (p_assignI rfl) ?_
    refine VR.nil ?_
    repeat (first | refine VC.seq ?_ | refine VC.block ?_ | refine VC.skip ?_)
    refine VC.ret ⟨_, ResOf.r1 (v := .int _ _) rfl rfl, ?_⟩
    refine ⟨⟨id, cur, last, A, n, c, es, stage, ep, td, prop, com⟩, rfl, ?_, hT, hm⟩
    unfold infoA
    rw [if_neg (by show ¬ (1 ≤ frm ∧ frm ≤ 7 ∧ frm ≠ id ∧ 0 ≤ ac ∧ ac ≤ 1073741822); omega)]
  · repeat (first | refine VC.seq ?_ | refine VC.block ?_ | refine VC.skip ?_)
    refine VC.condF rfl rfl ?_
    repeat (first | refine VC.seq ?_ | refine VC.block ?_ | refine VC.skip ?_)
    repeat (first | refine VC.seq ?_ | refine VC.block ?_ | refine VC.skip ?_)
    refine VC.region ?_
    refine VR.pure rfl rfl (p_moveP rfl) ?_
    refine VR.pure rfl rfl (p_nilCheck rfl) ?_
    refine VR.pure rfl rfl (p_field (fo := 4) Try.underlying47 rfl Try.sizeOf32 rfl rfl rfl) ?_
    refine VR.val rfl rfl (r_load (v := .int _ _) Try.isAgg32 rfl (hm.at_ 0 0 rfl) rfl) ?_
    refine VR.pure rfl rfl (p_assignI rfl) ?_
    refine VR.nil ?_
    repeat (first | refine VC.seq ?_ | refine VC.block ?_ | refine VC.skip ?_)
    refine VC.ret ⟨_, ResOf.r1 (v := .int _ _) rfl rfl, ?_⟩
    refine ⟨⟨id, cur, last, A, n, c, es, stage, ep, td, prop, com⟩, rfl, ?_, hT, hm⟩
    unfold infoA
    rw [if_neg (by show ¬ (1 ≤ frm ∧ frm ≤ 7 ∧ frm ≠ id ∧ 0 ≤ ac ∧ ac ≤ 1073741822); omega)]
  · repeat (first | refine VC.seq ?_ | refine VC.block ?_ | refine VC.skip ?_)
    refine VC.condF rfl rfl ?_
    repeat (first | refine VC.seq ?_ | refine VC.block ?_ | refine VC.skip ?_)
    repeat (first | refine VC.seq ?_ | refine VC.block ?_ | refine VC.skip ?_)
    refine VC.region ?_
    refine VR.pure rfl rfl (p_moveP rfl) ?_
    refine VR.pure rfl rfl (p_nilCheck rfl) ?_
    refine VR.pure rfl rfl (p_field (fo := 4) Try.underlying47 rfl Try.sizeOf32 rfl rfl rfl) ?_
    refine VR.val rfl rfl (r_load (v := .int _ _) Try.isAgg32 rfl (hm.at_ 0 0 rfl) rfl) ?_
    refine VR.pure rfl rfl (p_assignI rfl) ?_
    refine VR.nil ?_
    repeat (first | refine VC.seq ?_ | refine VC.block ?_ | refine VC.skip ?_)
    refine VC.ret ⟨_, ResOf.r1 (v := .int _ _) rfl rfl, ?_⟩
    refine ⟨⟨id, cur, last, A, n, c, es, stage, ep, td, prop, com⟩, rfl, ?_, hT, hm⟩
    unfold infoA
    rw [if_neg (by show ¬ (1 ≤ frm ∧ frm ≤ 7 ∧ frm ≠ id ∧ 0 ≤ ac ∧ ac ≤ 1073741822); omega)]
set_option maxHeartbeats 4000000 in
theorem prom_c {frm cu la : Int} (hm : Mem F w ([(g, T.ob)] :: Ls)) (hT : TOk F.heap T) (hI : AInv T.abs) (hno : ¬ (T.cur < cu ∨ cu = T.cur ∧ T.last < la)) :
    Calls Try.prog 11 #[.pointer (some ⟨g, 0, none⟩), .int .i64 frm, .bool true, .int .i64 cu, .int .i64 la] w (Ret fun v w' => ∃ T', v = .int .u8 T'.stage ∧ T'.abs = promA T.abs frm ∧ TOk F.heap T' ∧ Mem F w' ([(g, T'.ob)] :: Ls)) := by
  obtain ⟨id, cur, last, A, n, c, es, stage, ep, td, prop, com⟩ := T
  have hst : 1 ≤ stage ∧ stage ≤ 4 := hI.stage
  have hacc : ∀ k, k < 8 → 0 ≤ (td k).acc ∧ (td k).acc ≤ 1073741822 := hI.acc
  replace hm : Mem F w ([(g, tOb id cur last A n c stage ep td prop com)] :: Ls) := hm
  replace hno : ¬ (cur < cu ∨ cu = cur ∧ last < la) := hno
  refine Calls.of_vc Try.func11 rfl Try.ntmps11 rfl ?_
  repeat (first | refine VC.seq ?_ | refine VC.block ?_ | refine VC.skip ?_)
  refine VC.region ?_
  refine VR.new hm rfl rfl (n_box1 (v := .int _ _) rfl rfl) ?_
  intro b6 w hm
  refine VR.pure rfl rfl (p_assignI rfl) ?_
  refine VR.nil ?_
  have hmf := hm.freeze
  clear hm
  obtain ⟨G, hu, hm, hb6⟩ := hmf
  replace hb6 := hb6 _ (.head _)
  repeat (first | refine VC.seq ?_ | refine VC.block ?_ | refine VC.skip ?_)
  repeat (first | refine VC.seq ?_ | refine VC.block ?_ | refine VC.skip ?_)
  refine VC.region ?_
  refine VR.pure rfl rfl (p_moveP rfl) ?_
  refine VR.pure rfl rfl (p_eqNilP Try.underlying29 rfl) ?_
  refine VR.pure rfl rfl (p_assignB rfl) ?_
  refine VR.nil ?_
  repeat (first | refine VC.seq ?_ | refine VC.block ?_ | refine VC.skip ?_)
  refine VC.condF rfl rfl ?_
  repeat (first | refine VC.seq ?_ | refine VC.block ?_ | refine VC.skip ?_)
  refine VC.region ?_
  refine VR.pure rfl rfl (p_moveP rfl) ?_
  refine VR.pure rfl rfl (p_nilCheck rfl) ?_
  refine VR.pure rfl rfl (p_field (fo := 4) Try.underlying47 rfl Try.sizeOf32 rfl rfl rfl) ?_
  refine VR.val rfl rfl (r_load (v := .int _ _) Try.isAgg32 rfl (hm.at_ 0 0 rfl) rfl) ?_
  refine VR.pure rfl rfl (p_ne rfl rfl) ?_
  refine VR.pure rfl rfl (p_moveB rfl) ?_
  refine VR.splitD 28 rfl (fun q5 => ?_) (fun q5 => ?_)
  refine VR.pass rfl rfl ?_
  refine VR.pass rfl rfl ?_
  refine VR.pure rfl rfl (p_pickT rfl rfl) ?_
  refine VR.pure rfl rfl (p_moveB rfl) ?_
  refine VR.pass rfl rfl ?_
  refine VR.pass rfl rfl ?_
  refine VR.pass rfl rfl ?_
  refine VR.pure rfl rfl (p_pickT rfl rfl) ?_
  refine VR.pure rfl rfl (p_assignB rfl) ?_
  refine VR.nil ?_
  rotate_left 1
  refine VR.pureG rfl rfl (p_moveB rfl) ?_
  refine VR.pureG rfl rfl (p_not rfl) ?_
  refine VR.pure rfl rfl (p_pickF rfl rfl) ?_
  refine VR.pure rfl rfl (p_moveB rfl) ?_
  refine VR.knownF 32 rfl rfl ?_
  refine VR.valG rfl rfl (r_load (v := .int _ _) Try.isAgg3 rfl (hm.fix _ _ hb6) rfl) ?_
  refine VR.callG rfl rfl (r_call1 Try.call22 rfl) (server_c) ?_
  rintro _ _ ⟨rfl, rfl⟩
  refine VR.pureG rfl rfl (p_notD rfl) ?_
  refine VR.pure rfl rfl (p_pickF rfl rfl) ?_
  refine VR.pure rfl rfl (p_assignB rfl) ?_
  refine VR.nil ?_
  rotate_left 1
  · repeat (first | refine VC.seq ?_ | refine VC.block ?_ | refine VC.skip ?_)
    refine VC.condT rfl rfl ?_
    repeat (first | refine VC.seq ?_ | refine VC.block ?_ | refine VC.skip ?_)
    repeat (first | refine VC.seq ?_ | refine VC.block ?_ | refine VC.skip ?_)
    refine VC.region ?_
    refine VR.pure rfl rfl (p_moveP rfl) ?_
    refine VR.pure rfl rfl (p_nilCheck rfl) ?_
    refine VR.pure rfl rfl (p_field (fo := 4) Try.underlying47 rfl Try.sizeOf32 rfl rfl rfl) ?_
    refine VR.val rfl rfl (r_load (v := .int _ _) Try.isAgg32 rfl (hm.at_ 0 0 rfl) rfl) ?_
    refine VR.pure rfl rfl (p_assignI rfl) ?_
    refine VR.nil ?_
    repeat (first | refine VC.seq ?_ | refine VC.block ?_ | refine VC.skip ?_)
    refine VC.ret ⟨_, ResOf.r1 (v := .int _ _) rfl rfl, ?_⟩
    refine ⟨⟨id, cur, last, A, n, c, es, stage, ep, td, prop, com⟩, rfl, ?_, hT, hm.shrink hu⟩
    unfold promA
    rw [if_neg (by show ¬ (stage = 2 ∧ 1 ≤ frm ∧ frm ≤ 7); omega)]
  · repeat (first | refine VC.seq ?_ | refine VC.block ?_ | refine VC.skip ?_)
    refine VC.condD rfl (fun q13 => ?_) (fun q13 => ?_)
    · repeat (first | refine VC.seq ?_ | refine VC.block ?_ | refine VC.skip ?_)
      repeat (first | refine VC.seq ?_ | refine VC.block ?_ | refine VC.skip ?_)
      refine VC.region ?_
      refine VR.pure rfl rfl (p_moveP rfl) ?_
      refine VR.pure rfl rfl (p_nilCheck rfl) ?_
      refine VR.pure rfl rfl (p_field (fo := 4) Try.underlying47 rfl Try.sizeOf32 rfl rfl rfl) ?_
      refine VR.val rfl rfl (r_load (v := .int _ _) Try.isAgg32 rfl (hm.at_ 0 0 rfl) rfl) ?_
      refine VR.pure rfl rfl (p_assignI rfl) ?_
      refine VR.nil ?_
      repeat (first | refine VC.seq ?_ | refine VC.block ?_ | refine VC.skip ?_)
      refine VC.ret ⟨_, ResOf.r1 (v := .int _ _) rfl rfl, ?_⟩
      refine ⟨⟨id, cur, last, A, n, c, es, stage, ep, td, prop, com⟩, rfl, ?_, hT, hm.shrink hu⟩
      unfold promA
      rw [if_neg (by show ¬ (stage = 2 ∧ 1 ≤ frm ∧ frm ≤ 7); omega)]
    · have hsrv : stage = 2 ∧ 1 ≤ frm ∧ frm ≤ 7 := by omega
      obtain ⟨kf, rfl, hk8⟩ : ∃ q : Nat, frm = q ∧ q < 8 := ⟨frm.toNat, by omega, by omega⟩
      repeat (first | refine VC.seq ?_ | refine VC.block ?_ | refine VC.skip ?_)
      have hst1 := ts_pr (id := id) (cur := cur) (last := last) (A := A) (n := n) (c := c) (stage := stage) (ep := ep) (td := td) (prop := prop) (com := com) true kf hk8
      have htd : updT td kf { td kf with pr := true } = updT td kf (tPr (td kf)) := rfl
      rw [htd] at hst1
      have hIt : AInv ((Tb.abs ⟨id, cur, last, A, n, c, es, stage, ep, td, prop, com⟩).tell (updT td kf (tPr (td kf)))) := hI.tell (td := updT td kf (tPr (td kf))) (updT_same (d := tPr (td kf)) rfl _) fun k hk => by rw [updT_same (d := tPr (td kf)) rfl]; exact hacc k hk
      repeat (first | refine VC.seq ?_ | refine VC.block ?_ | refine VC.skip ?_)
      refine VC.region ?_
      refine VR.pure rfl rfl (p_moveI rfl) ?_
      refine VR.pure rfl rfl (p_moveP rfl) ?_
      refine VR.pure rfl rfl (p_nilCheck rfl) ?_
      refine VR.pure rfl rfl (p_field (fo := 1) Try.underlying47 rfl Try.sizeOf3 rfl rfl rfl) ?_
      refine VR.val rfl rfl (r_load (v := .int _ _) Try.isAgg3 rfl (hm.at_ 0 0 rfl) rfl) ?_
      refine VR.pure rfl rfl (p_gt rfl rfl) ?_
      refine VR.pure rfl rfl (p_moveB rfl) ?_
      refine VR.knownF 44 rfl (decide_eq_false (by omega)) ?_
      refine VR.pureG rfl rfl (p_moveI rfl) ?_
      refine VR.pureG rfl rfl (p_moveP rfl) ?_
      refine VR.pureG rfl rfl (p_nilCheck rfl) ?_
      refine VR.pureG rfl rfl (p_field (fo := 1) Try.underlying47 rfl Try.sizeOf3 rfl rfl rfl) ?_
      refine VR.valG rfl rfl (r_load (v := .int _ _) Try.isAgg3 rfl (hm.at_ 0 0 rfl) rfl) ?_
      refine VR.pureG rfl rfl (p_eq rfl rfl) ?_
      refine VR.pureG rfl rfl (p_moveB rfl) ?_
      refine VR.splitD 51 rfl (fun q13b => ?_) (fun q13b => ?_)
      refine VR.pureG rfl rfl (p_moveI rfl) ?_
      refine VR.pureG rfl rfl (p_moveP rfl) ?_
      refine VR.pureG rfl rfl (p_nilCheck rfl) ?_
      refine VR.pureG rfl rfl (p_field (fo := 2) Try.underlying47 rfl Try.sizeOf22 rfl rfl rfl) ?_
      refine VR.valG rfl rfl (r_load (v := .int _ _) Try.isAgg22 rfl (hm.at_ 0 0 rfl) rfl) ?_
      refine VR.pureG rfl rfl (p_gt rfl rfl) ?_
      refine VR.pureG rfl rfl (p_pickT rfl rfl) ?_
      refine VR.pure rfl rfl (p_pickF rfl rfl) ?_
      refine VR.pure rfl rfl (p_moveB rfl) ?_
      refine VR.knownF 60 rfl (decide_eq_false (by omega)) ?_
      refine VR.pass rfl rfl ?_
      refine VR.pass rfl rfl ?_
      refine VR.pass rfl rfl ?_
      refine VR.pass rfl rfl ?_
      refine VR.pass rfl rfl ?_
      refine VR.pass rfl rfl ?_
      refine VR.pure rfl rfl (p_pickF rfl rfl) ?_
      refine VR.pure rfl rfl (p_assignB rfl) ?_
      refine VR.nil ?_
      rotate_left 1
      refine VR.pass rfl rfl ?_
      refine VR.pass rfl rfl ?_
      refine VR.pass rfl rfl ?_
      refine VR.pass rfl rfl ?_
      refine VR.pass rfl rfl ?_
      refine VR.pass rfl rfl ?_
      refine VR.pureG rfl rfl (p_pickF rfl rfl) ?_
      refine VR.pure rfl rfl (p_pickF rfl rfl) ?_
      refine VR.pure rfl rfl (p_moveB rfl) ?_
      refine VR.pass rfl rfl ?_
      refine VR.pass rfl rfl ?_
      refine VR.pass rfl rfl ?_
      refine VR.pass rfl rfl ?_
      refine VR.pass rfl rfl ?_
      refine VR.pass rfl rfl ?_
      refine VR.pure rfl rfl (p_pickF rfl rfl) ?_
      refine VR.pure rfl rfl (p_assignB rfl) ?_
      refine VR.nil ?_
      rotate_left 1
      · repeat (first | refine VC.seq ?_ | refine VC.block ?_ | refine VC.skip ?_)
        refine VC.condF rfl rfl ?_
        repeat (first | refine VC.seq ?_ | refine VC.block ?_ | refine VC.skip ?_)
        refine VC.loud (Kept G []) [6] rfl (by kernel_rfl) (Kept.of0 hm.drew) ?_
        replace hm := hm.drew
        refine VL.pure rfl rfl rfl (p_moveP rfl) ?_
        refine VL.read rfl rfl rfl (fun w' hw' => r_load (v := .int _ _) Try.isAgg3 rfl (hw'.fix _ _ hb6) rfl) ?_
        refine VL.pure rfl rfl rfl (p_nilCheck rfl) ?_
        refine VL.pure rfl rfl rfl (p_field (fo := 6) Try.underlying47 rfl Try.sizeOf45 rfl rfl rfl) ?_
        refine VL.pure rfl rfl rfl (p_idxA Try.underlying45 Try.sizeOf44 rfl rfl hk8) ?_
        refine VL.pure rfl rfl rfl (p_field (fo := 2) Try.underlying44 rfl Try.sizeOf4 rfl rfl rfl) ?_
        refine VL.store (cs' := (tcl id cur last A n c stage ep (updT td kf (tPr (td kf))) prop com)) (v := .bool _) Try.sizeOf4 rfl rfl rfl rfl rfl rfl hm 0 0 rfl (by show 0 + 6 + kf * 5 + 2 + 1 ≤ 48; omega) hst1 (fun w' hm' => Kept.of0 hm') ?_
        intro w hm
        refine VL.nil ?_
        repeat (first | refine VC.seq ?_ | refine VC.block ?_ | refine VC.skip ?_)
        refine VC.region ?_
        refine VR.pure rfl rfl (p_moveP rfl) ?_
        refine VR.call rfl rfl (r_call1 Try.call26 rfl) (on_c (T0 := ⟨id, cur, last, A, n, c, es, stage, ep, updT td kf (tPr (td kf)), prop, com⟩) (hm.shrink hu) ⟨hT.row, hT.n, hT.nc, hT.c, hT.id, hIt.acc⟩ hst.2) ?_
        rintro _ w ⟨T1, hab1, hT1, hm⟩
        refine VR.nil ?_
        repeat (first | refine VC.seq ?_ | refine VC.block ?_ | refine VC.skip ?_)
        repeat (first | refine VC.seq ?_ | refine VC.block ?_ | refine VC.skip ?_)
        refine VC.region ?_
        refine VR.pure rfl rfl (p_moveP rfl) ?_
        refine VR.pure rfl rfl (p_nilCheck rfl) ?_
        refine VR.pure rfl rfl (p_field (fo := 4) Try.underlying47 rfl Try.sizeOf32 rfl rfl rfl) ?_
        refine VR.val rfl rfl (r_load (v := .int _ _) Try.isAgg32 rfl (hm.at_ 0 0 rfl) rfl) ?_
        refine VR.pure rfl rfl (p_assignI rfl) ?_
        refine VR.nil ?_
        repeat (first | refine VC.seq ?_ | refine VC.block ?_ | refine VC.skip ?_)
        refine VC.ret ⟨_, ResOf.r1 (v := .int _ _) rfl rfl, ?_⟩
        refine ⟨T1, rfl, ?_, hT1, hm⟩
        rw [hab1]
        unfold promA
        rw [if_pos (by show stage = 2 ∧ 1 ≤ (kf : Int) ∧ (kf : Int) ≤ 7; omega)]
        rfl
      · repeat (first | refine VC.seq ?_ | refine VC.block ?_ | refine VC.skip ?_)
        refine VC.condF rfl rfl ?_
        repeat (first | refine VC.seq ?_ | refine VC.block ?_ | refine VC.skip ?_)
        refine VC.loud (Kept G []) [6] rfl (by kernel_rfl) (Kept.of0 hm.drew) ?_
        replace hm := hm.drew
        refine VL.pure rfl rfl rfl (p_moveP rfl) ?_
        refine VL.read rfl rfl rfl (fun w' hw' => r_load (v := .int _ _) Try.isAgg3 rfl (hw'.fix _ _ hb6) rfl) ?_
        refine VL.pure rfl rfl rfl (p_nilCheck rfl) ?_
        refine VL.pure rfl rfl rfl (p_field (fo := 6) Try.underlying47 rfl Try.sizeOf45 rfl rfl rfl) ?_
        refine VL.pure rfl rfl rfl (p_idxA Try.underlying45 Try.sizeOf44 rfl rfl hk8) ?_
        refine VL.pure rfl rfl rfl (p_field (fo := 2) Try.underlying44 rfl Try.sizeOf4 rfl rfl rfl) ?_
        refine VL.store (cs' := (tcl id cur last A n c stage ep (updT td kf (tPr (td kf))) prop com)) (v := .bool _) Try.sizeOf4 rfl rfl rfl rfl rfl rfl hm 0 0 rfl (by show 0 + 6 + kf * 5 + 2 + 1 ≤ 48; omega) hst1 (fun w' hm' => Kept.of0 hm') ?_
        intro w hm
        refine VL.nil ?_
        repeat (first | refine VC.seq ?_ | refine VC.block ?_ | refine VC.skip ?_)
        refine VC.region ?_
        refine VR.pure rfl rfl (p_moveP rfl) ?_
        refine VR.call rfl rfl (r_call1 Try.call26 rfl) (on_c (T0 := ⟨id, cur, last, A, n, c, es, stage, ep, updT td kf (tPr (td kf)), prop, com⟩) (hm.shrink hu) ⟨hT.row, hT.n, hT.nc, hT.c, hT.id, hIt.acc⟩ hst.2) ?_
        rintro _ w ⟨T1, hab1, hT1, hm⟩
        refine VR.nil ?_
        repeat (first | refine VC.seq ?_ | refine VC.block ?_ | refine VC.skip ?_)
        repeat (first | refine VC.seq ?_ | refine VC.block ?_ | refine VC.skip ?_)
        refine VC.region ?_
        refine VR.pure rfl rfl (p_moveP rfl) ?_
        refine VR.pure rfl rfl (p_nilCheck rfl) ?_
        refine VR.pure rfl rfl (p_field (fo := 4) Try.underlying47 rfl Try.sizeOf32 rfl rfl rfl) ?_
        refine VR.val rfl rfl (r_load (v := .int _ _) Try.isAgg32 rfl (hm.at_ 0 0 rfl) rfl) ?_
        refine VR.pure rfl rfl (p_assignI rfl) ?_
        refine VR.nil ?_
        repeat (first | refine VC.seq ?_ | refine VC.block ?_ | refine VC.skip ?_)
        refine VC.ret ⟨_, ResOf.r1 (v := .int _ _) rfl rfl, ?_⟩
        refine ⟨T1, rfl, ?_, hT1, hm⟩
        rw [hab1]
        unfold promA
        rw [if_pos (by show stage = 2 ∧ 1 ≤ (kf : Int) ∧ (kf : Int) ≤ 7; omega)]
        rfl
set_option maxHeartbeats 4000000 in
theorem ackNew_c {frm : Int} (hm : Mem F w ([(g, T.ob)] :: Ls)) (hT : TOk F.heap T) (hI : AInv T.abs) :
    Calls Try.prog 12 #[.pointer (some ⟨g, 0, none⟩), .int .i64 frm] w (Ret fun v w' => ∃ T', v = .int .u8 T'.stage ∧ T'.abs = ackA T.abs frm ∧ TOk F.heap T' ∧ Mem F w' ([(g, T'.ob)] :: Ls)) := by
  obtain ⟨id, cur, last, A, n, c, es, stage, ep, td, prop, com⟩ := T
  have hst : 1 ≤ stage ∧ stage ≤ 4 := hI.stage
  have hacc : ∀ k, k < 8 → 0 ≤ (td k).acc ∧ (td k).acc ≤ 1073741822 := hI.acc
  replace hm : Mem F w ([(g, tOb id cur last A n c stage ep td prop com)] :: Ls) := hm
  refine Calls.of_vc Try.func12 rfl Try.ntmps12 rfl ?_
  repeat (first | refine VC.seq ?_ | refine VC.block ?_ | refine VC.skip ?_)
  refine VC.region ?_
  refine VR.pure rfl rfl (p_assignI rfl) ?_
  refine VR.nil ?_
  repeat (first | refine VC.seq ?_ | refine VC.block ?_ | refine VC.skip ?_)
  refine VC.region ?_
  refine VR.pure rfl rfl (p_moveP rfl) ?_
  refine VR.pure rfl rfl (p_eqNilP Try.underlying29 rfl) ?_
  refine VR.nil ?_
  repeat (first | refine VC.seq ?_ | refine VC.block ?_ | refine VC.skip ?_)
  refine VC.condF rfl rfl ?_
  repeat (first | refine VC.seq ?_ | refine VC.block ?_ | refine VC.skip ?_)
  refine VC.region ?_
  refine VR.pure rfl rfl (p_moveP rfl) ?_
  refine VR.pure rfl rfl (p_nilCheck rfl) ?_
  refine VR.pure rfl rfl (p_field (fo := 4) Try.underlying47 rfl Try.sizeOf32 rfl rfl rfl) ?_
  refine VR.val rfl rfl (r_load (v := .int _ _) Try.isAgg32 rfl (hm.at_ 0 0 rfl) rfl) ?_
  refine VR.pure rfl rfl (p_eq rfl rfl) ?_
  refine VR.pure rfl rfl (p_moveB rfl) ?_
  refine VR.splitD 12 rfl (fun q5 => ?_) (fun q5 => ?_)
  refine VR.pass rfl rfl ?_
  refine VR.pass rfl rfl ?_
  refine VR.pass rfl rfl ?_
  refine VR.pass rfl rfl ?_
  refine VR.pass rfl rfl ?_
  refine VR.pure rfl rfl (p_pickT rfl rfl) ?_
  refine VR.pure rfl rfl (p_moveB rfl) ?_
  refine VR.pureG rfl rfl (p_moveI rfl) ?_
  refine VR.callG rfl rfl (r_call1 Try.call22 rfl) (server_c) ?_
  rintro _ _ ⟨rfl, rfl⟩
  refine VR.pure rfl rfl (p_pickT rfl rfl) ?_
  refine VR.nil ?_
  rotate_left 1
  refine VR.pureG rfl rfl (p_moveP rfl) ?_
  refine VR.pureG rfl rfl (p_nilCheck rfl) ?_
  refine VR.pureG rfl rfl (p_field (fo := 4) Try.underlying47 rfl Try.sizeOf32 rfl rfl rfl) ?_
  refine VR.valG rfl rfl (r_load (v := .int _ _) Try.isAgg32 rfl (hm.at_ 0 0 rfl) rfl) ?_
  refine VR.pureG rfl rfl (p_eq rfl rfl) ?_
  refine VR.pure rfl rfl (p_pickF rfl rfl) ?_
  refine VR.pure rfl rfl (p_moveB rfl) ?_
  refine VR.splitD 19 rfl (fun q12 => ?_) (fun q12 => ?_)
  refine VR.pureG rfl rfl (p_moveI rfl) ?_
  refine VR.callG rfl rfl (r_call1 Try.call22 rfl) (server_c) ?_
  rintro _ _ ⟨rfl, rfl⟩
  refine VR.pure rfl rfl (p_pickT rfl rfl) ?_
  refine VR.nil ?_
  rotate_left 1
  refine VR.pass rfl rfl ?_
  refine VR.pass rfl rfl ?_
  refine VR.pure rfl rfl (p_pickF rfl rfl) ?_
  refine VR.nil ?_
  rotate_left 1
  · repeat (first | refine VC.seq ?_ | refine VC.block ?_ | refine VC.skip ?_)
    refine VC.condD rfl (fun q15 => ?_) (fun q15 => ?_)
    · obtain ⟨kf, rfl, hk8⟩ : ∃ q : Nat, frm = q ∧ q < 8 := ⟨frm.toNat, by omega, by omega⟩
      have hst1 := ts_nw (id := id) (cur := cur) (last := last) (A := A) (n := n) (c := c) (stage := stage) (ep := ep) (td := td) (prop := prop) (com := com) true kf hk8
      have hst2 := ts_ack (id := id) (cur := cur) (last := last) (A := A) (n := n) (c := c) (stage := stage) (ep := ep) (td := updT td kf { td kf with nw := true }) (prop := prop) (com := com) (max (td kf).ack last) kf hk8
      have hak := tc_ack (id := id) (cur := cur) (last := last) (A := A) (n := n) (c := c) (stage := stage) (ep := ep) (td := updT td kf { td kf with nw := true }) (prop := prop) (com := com) kf hk8
      have hak2 : (updT td kf { td kf with nw := true } kf).ack = (td kf).ack := by
        unfold updT
        rw [if_pos rfl]
      rw [hak2] at hak
      have htd : updT (updT td kf { td kf with nw := true }) kf { updT td kf { td kf with nw := true } kf with ack := max (td kf).ack last } = updT td kf (tNw (td kf) last) := funext fun j => by
        unfold updT
        by_cases e : j = kf
        · subst e
          rw [if_pos rfl, if_pos rfl, if_pos rfl]
          rfl
        · rw [if_neg e, if_neg e, if_neg e]
      rw [htd] at hst2
      repeat (first | refine VC.seq ?_ | refine VC.block ?_ | refine VC.skip ?_)
      refine VC.region ?_
      refine VR.pure rfl rfl (p_moveP rfl) ?_
      refine VR.pure rfl rfl (p_moveI rfl) ?_
      refine VR.pure rfl rfl (p_nilCheck rfl) ?_
      refine VR.pure rfl rfl (p_field (fo := 6) Try.underlying47 rfl Try.sizeOf45 rfl rfl rfl) ?_
      refine VR.pure rfl rfl (p_idxA Try.underlying45 Try.sizeOf44 rfl rfl hk8) ?_
      refine VR.pure rfl rfl (p_field (fo := 3) Try.underlying44 rfl Try.sizeOf4 rfl rfl rfl) ?_
      refine VR.store (cs' := (tcl id cur last A n c stage ep (updT td kf { td kf with nw := true }) prop com)) (v := .bool _) Try.sizeOf4 rfl rfl rfl rfl rfl hm 0 0 rfl (by show 0 + 6 + kf * 5 + 3 + 1 ≤ 48; omega) hst1 ?_
      intro w hm
      refine VR.nil ?_
      repeat (first | refine VC.seq ?_ | refine VC.block ?_ | refine VC.skip ?_)
      refine VC.meet (σ := Unit) (fun _ => [(0, .pointer (some ⟨g, 0, none⟩))]) (fun _ w => Mem F w ([(g, tOb id cur last A n c stage ep (updT td kf (tNw (td kf) last)) prop com)] :: Ls)) ?_ ?_
      · repeat (first | refine VC.seq ?_ | refine VC.block ?_ | refine VC.skip ?_)
        refine VC.free (Kept F []) [8, 12, 18] rfl (by kernel_rfl) (Kept.of0 hm.drew) ?_
        replace hm := hm.drew
        refine VD.pure 0 rfl (by kernel_rfl) rfl rfl (p_moveP rfl) ?_
        refine VD.pure 1 rfl (by kernel_rfl) rfl rfl (p_moveI rfl) ?_
        refine VD.pure 2 rfl (by kernel_rfl) rfl rfl (p_moveP rfl) ?_
        refine VD.pure 3 rfl (by kernel_rfl) rfl rfl (p_moveI rfl) ?_
        refine VD.pure 4 rfl (by kernel_rfl) rfl rfl (p_nilCheck rfl) ?_
        refine VD.pure 5 rfl (by kernel_rfl) rfl rfl (p_field (fo := 6) Try.underlying47 rfl Try.sizeOf45 rfl rfl rfl) ?_
        refine VD.pure 6 rfl (by kernel_rfl) rfl rfl (p_idxA Try.underlying45 Try.sizeOf44 rfl rfl hk8) ?_
        refine VD.pure 7 rfl (by kernel_rfl) rfl rfl (p_field (fo := 4) Try.underlying44 rfl Try.sizeOf22 rfl rfl rfl) ?_
        refine VD.pure 9 rfl (by kernel_rfl) rfl rfl (p_moveP rfl) ?_
        refine VD.pure 10 rfl (by kernel_rfl) rfl rfl (p_nilCheck rfl) ?_
        refine VD.pure 11 rfl (by kernel_rfl) rfl rfl (p_field (fo := 2) Try.underlying47 rfl Try.sizeOf22 rfl rfl rfl) ?_
        refine VD.pure 14 rfl (by kernel_rfl) rfl rfl (p_nilCheck rfl) ?_
        refine VD.pure 15 rfl (by kernel_rfl) rfl rfl (p_field (fo := 6) Try.underlying47 rfl Try.sizeOf45 rfl rfl rfl) ?_
        refine VD.turn2 8 12 (by kernel_rfl) ?_ ?_
        refine VDT.val rfl rfl rfl (r_load (v := .int _ _) Try.isAgg22 rfl (hm.at_ 0 0 rfl) hak) (Kept.of0 hm) ?_
        refine VD.turn1 12 (by kernel_rfl) ?_
        refine VDT.val rfl rfl rfl (r_load (v := .int _ _) Try.isAgg22 rfl (hm.at_ 0 0 rfl) rfl) (Kept.of0 hm) ?_
        refine VD.pure 13 rfl (by kernel_rfl) rfl rfl (p_max rfl rfl) ?_
        refine VD.pure 16 rfl (by kernel_rfl) rfl rfl (p_idxA Try.underlying45 Try.sizeOf44 rfl rfl hk8) ?_
        refine VD.pure 17 rfl (by kernel_rfl) rfl rfl (p_field (fo := 4) Try.underlying44 rfl Try.sizeOf22 rfl rfl rfl) ?_
        refine VD.turn1 18 (by kernel_rfl) ?_
        refine VDT.store (cs' := (tcl id cur last A n c stage ep (updT td kf (tNw (td kf) last)) prop com)) (v := .int _ _) Try.sizeOf22 rfl rfl rfl rfl rfl rfl hm 0 0 rfl (by show 0 + 6 + kf * 5 + 4 + 1 ≤ 48; omega) hst2 (fun w' hm' => Kept.of0 hm') ?_
        intro w hm
        refine VD.nil (by kernel_rfl) rfl ?_
        rotate_left 1
        refine VDT.val rfl rfl rfl (r_load (v := .int _ _) Try.isAgg22 rfl (hm.at_ 0 0 rfl) rfl) (Kept.of0 hm) ?_
        refine VD.turn1 8 (by kernel_rfl) ?_
        refine VDT.val rfl rfl rfl (r_load (v := .int _ _) Try.isAgg22 rfl (hm.at_ 0 0 rfl) hak) (Kept.of0 hm) ?_
        refine VD.pure 13 rfl (by kernel_rfl) rfl rfl (p_max rfl rfl) ?_
        refine VD.pure 16 rfl (by kernel_rfl) rfl rfl (p_idxA Try.underlying45 Try.sizeOf44 rfl rfl hk8) ?_
        refine VD.pure 17 rfl (by kernel_rfl) rfl rfl (p_field (fo := 4) Try.underlying44 rfl Try.sizeOf22 rfl rfl rfl) ?_
        refine VD.turn1 18 (by kernel_rfl) ?_
        refine VDT.store (cs' := (tcl id cur last A n c stage ep (updT td kf (tNw (td kf) last)) prop com)) (v := .int _ _) Try.sizeOf22 rfl rfl rfl rfl rfl rfl hm 0 0 rfl (by show 0 + 6 + kf * 5 + 4 + 1 ≤ 48; omega) hst2 (fun w' hm' => Kept.of0 hm') ?_
        intro w hm
        refine VD.nil (by kernel_rfl) rfl ?_
        rotate_left 1
        all_goals exact ⟨(), ⟨rfl, trivial⟩, hm⟩
      clear hm
      rintro _ A9 w hm
      have hIt : AInv ((Tb.abs ⟨id, cur, last, A, n, c, es, stage, ep, td, prop, com⟩).tell (updT td kf (tNw (td kf) last))) := hI.tell (td := updT td kf (tNw (td kf) last)) (updT_same (d := tNw (td kf) last) rfl _) fun k hk => by rw [updT_same (d := tNw (td kf) last) rfl]; exact hacc k hk
      repeat (first | refine VC.seq ?_ | refine VC.block ?_ | refine VC.skip ?_)
      refine VC.region ?_
      refine VR.pure rfl rfl (p_moveP rfl) ?_
      refine VR.call rfl rfl (r_call1 Try.call26 rfl) (on_c (T0 := ⟨id, cur, last, A, n, c, es, stage, ep, updT td kf (tNw (td kf) last), prop, com⟩) hm ⟨hT.row, hT.n, hT.nc, hT.c, hT.id, hIt.acc⟩ hst.2) ?_
      rintro _ w ⟨T1, hab1, hT1, hm⟩
      refine VR.nil ?_
      have hI1 : AInv T1.abs := by rw [hab1]; exact hIt.on
      have hn1 : T1.stage = 4 → T1.n = 1 := fun h => by
        have h1 := (hI1.four h).1
        have h2 := hT1.row.len
        rw [← h2]
        have h3 : (T1.es.map En.abs).length = 1 := h1
        rwa [List.length_map] at h3
      repeat (first | refine VC.seq ?_ | refine VC.block ?_ | refine VC.skip ?_)
      refine VC.region ?_
      refine VR.pure rfl rfl (p_moveP rfl) ?_
      refine VR.call rfl rfl (r_call1 Try.call30 rfl) (commit_c hm hT1 hn1 hI1.ep hI1.prop ⟨hI1.com, fun h ↦ (hI1.four h).2⟩) ?_
      rintro _ w ⟨T2, hab2, hT2, hm⟩
      refine VR.nil ?_
      repeat (first | refine VC.seq ?_ | refine VC.block ?_ | refine VC.skip ?_)
      repeat (first | refine VC.seq ?_ | refine VC.block ?_ | refine VC.skip ?_)
      refine VC.region ?_
      refine VR.pure rfl rfl (p_moveP rfl) ?_
      refine VR.pure rfl rfl (p_nilCheck rfl) ?_
      refine VR.pure rfl rfl (p_field (fo := 4) Try.underlying47 rfl Try.sizeOf32 rfl rfl rfl) ?_
      refine VR.val rfl rfl (r_load (v := .int _ _) Try.isAgg32 rfl (hm.at_ 0 0 rfl) rfl) ?_
      refine VR.pure rfl rfl (p_assignI rfl) ?_
      refine VR.nil ?_
      repeat (first | refine VC.seq ?_ | refine VC.block ?_ | refine VC.skip ?_)
      refine VC.ret ⟨_, ResOf.r1 (v := .int _ _) rfl rfl, ?_⟩
      refine ⟨T2, rfl, ?_, hT2, hm⟩
      rw [hab2, hab1]
      unfold ackA
      rw [if_pos (by show (stage = 3 ∨ stage = 4) ∧ 1 ≤ (kf : Int) ∧ (kf : Int) ≤ 7; omega)]
      rfl
    · repeat (first | refine VC.seq ?_ | refine VC.block ?_ | refine VC.skip ?_)
      repeat (first | refine VC.seq ?_ | refine VC.block ?_ | refine VC.skip ?_)
      refine VC.region ?_
      refine VR.pure rfl rfl (p_moveP rfl) ?_
      refine VR.pure rfl rfl (p_nilCheck rfl) ?_
      refine VR.pure rfl rfl (p_field (fo := 4) Try.underlying47 rfl Try.sizeOf32 rfl rfl rfl) ?_
      refine VR.val rfl rfl (r_load (v := .int _ _) Try.isAgg32 rfl (hm.at_ 0 0 rfl) rfl) ?_
      refine VR.pure rfl rfl (p_assignI rfl) ?_
      refine VR.nil ?_
      repeat (first | refine VC.seq ?_ | refine VC.block ?_ | refine VC.skip ?_)
      refine VC.ret ⟨_, ResOf.r1 (v := .int _ _) rfl rfl, ?_⟩
      refine ⟨⟨id, cur, last, A, n, c, es, stage, ep, td, prop, com⟩, rfl, ?_, hT, hm⟩
      unfold ackA
      rw [if_neg (by show ¬ ((stage = 3 ∨ stage = 4) ∧ 1 ≤ frm ∧ frm ≤ 7); omega)]
  · repeat (first | refine VC.seq ?_ | refine VC.block ?_ | refine VC.skip ?_)
    refine VC.condD rfl (fun q15 => ?_) (fun q15 => ?_)
    · obtain ⟨kf, rfl, hk8⟩ : ∃ q : Nat, frm = q ∧ q < 8 := ⟨frm.toNat, by omega, by omega⟩
      have hst1 := ts_nw (id := id) (cur := cur) (last := last) (A := A) (n := n) (c := c) (stage := stage) (ep := ep) (td := td) (prop := prop) (com := com) true kf hk8
      have hst2 := ts_ack (id := id) (cur := cur) (last := last) (A := A) (n := n) (c := c) (stage := stage) (ep := ep) (td := updT td kf { td kf with nw := true }) (prop := prop) (com := com) (max (td kf).ack last) kf hk8
      have hak := tc_ack (id := id) (cur := cur) (last := last) (A := A) (n := n) (c := c) (stage := stage) (ep := ep) (td := updT td kf { td kf with nw := true }) (prop := prop) (com := com) kf hk8
      have hak2 : (updT td kf { td kf with nw := true } kf).ack = (td kf).ack := by
        unfold updT
        rw [if_pos rfl]
      rw [hak2] at hak
      have htd : updT (updT td kf { td kf with nw := true }) kf { updT td kf { td kf with nw := true } kf with ack := max (td kf).ack last } = updT td kf (tNw (td kf) last) := funext fun j => by
        unfold updT
        by_cases e : j = kf
        · subst e
          rw [if_pos rfl, if_pos rfl, if_pos rfl]
          rfl
        · rw [if_neg e, if_neg e, if_neg e]
      rw [htd] at hst2
      repeat (first | refine VC.seq ?_ | refine VC.block ?_ | refine VC.skip ?_)
      refine VC.region ?_
      refine VR.pure rfl rfl (p_moveP rfl) ?_
      refine VR.pure rfl rfl (p_moveI rfl) ?_
      refine VR.pure rfl rfl (p_nilCheck rfl) ?_
      refine VR.pure rfl rfl (p_field (fo := 6) Try.underlying47 rfl Try.sizeOf45 rfl rfl rfl) ?_
      refine VR.pure rfl rfl (p_idxA Try.underlying45 Try.sizeOf44 rfl rfl hk8) ?_
      refine VR.pure rfl rfl (p_field (fo := 3) Try.underlying44 rfl Try.sizeOf4 rfl rfl rfl) ?_
      refine VR.store (cs' := (tcl id cur last A n c stage ep (updT td kf { td kf with nw := true }) prop com)) (v := .bool _) Try.sizeOf4 rfl rfl rfl rfl rfl hm 0 0 rfl (by show 0 + 6 + kf * 5 + 3 + 1 ≤ 48; omega) hst1 ?_
      intro w hm
      refine VR.nil ?_
      repeat (first | refine VC.seq ?_ | refine VC.block ?_ | refine VC.skip ?_)
      refine VC.meet (σ := Unit) (fun _ => [(0, .pointer (some ⟨g, 0, none⟩))]) (fun _ w => Mem F w ([(g, tOb id cur last A n c stage ep (updT td kf (tNw (td kf) last)) prop com)] :: Ls)) ?_ ?_
      · repeat (first | refine VC.seq ?_ | refine VC.block ?_ | refine VC.skip ?_)
        refine VC.free (Kept F []) [8, 12, 18] rfl (by kernel_rfl) (Kept.of0 hm.drew) ?_
        replace hm := hm.drew
        refine VD.pure 0 rfl (by kernel_rfl) rfl rfl (p_moveP rfl) ?_
        refine VD.pure 1 rfl (by kernel_rfl) rfl rfl (p_moveI rfl) ?_
        refine VD.pure 2 rfl (by kernel_rfl) rfl rfl (p_moveP rfl) ?_
        refine VD.pure 3 rfl (by kernel_rfl) rfl rfl (p_moveI rfl) ?_
        refine VD.pure 4 rfl (by kernel_rfl) rfl rfl (p_nilCheck rfl) ?_
        refine VD.pure 5 rfl (by kernel_rfl) rfl rfl (p_field (fo := 6) Try.underlying47 rfl Try.sizeOf45 rfl rfl rfl) ?_
        refine VD.pure 6 rfl (by kernel_rfl) rfl rfl (p_idxA Try.underlying45 Try.sizeOf44 rfl rfl hk8) ?_
        refine VD.pure 7 rfl (by kernel_rfl) rfl rfl (p_field (fo := 4) Try.underlying44 rfl Try.sizeOf22 rfl rfl rfl) ?_
        refine VD.pure 9 rfl (by kernel_rfl) rfl rfl (p_moveP rfl) ?_
        refine VD.pure 10 rfl (by kernel_rfl) rfl rfl (p_nilCheck rfl) ?_
        refine VD.pure 11 rfl (by kernel_rfl) rfl rfl (p_field (fo := 2) Try.underlying47 rfl Try.sizeOf22 rfl rfl rfl) ?_
        refine VD.pure 14 rfl (by kernel_rfl) rfl rfl (p_nilCheck rfl) ?_
        refine VD.pure 15 rfl (by kernel_rfl) rfl rfl (p_field (fo := 6) Try.underlying47 rfl Try.sizeOf45 rfl rfl rfl) ?_
        refine VD.turn2 8 12 (by kernel_rfl) ?_ ?_
        refine VDT.val rfl rfl rfl (r_load (v := .int _ _) Try.isAgg22 rfl (hm.at_ 0 0 rfl) hak) (Kept.of0 hm) ?_
        refine VD.turn1 12 (by kernel_rfl) ?_
        refine VDT.val rfl rfl rfl (r_load (v := .int _ _) Try.isAgg22 rfl (hm.at_ 0 0 rfl) rfl) (Kept.of0 hm) ?_
        refine VD.pure 13 rfl (by kernel_rfl) rfl rfl (p_max rfl rfl) ?_
        refine VD.pure 16 rfl (by kernel_rfl) rfl rfl (p_idxA Try.underlying45 Try.sizeOf44 rfl rfl hk8) ?_
        refine VD.pure 17 rfl (by kernel_rfl) rfl rfl (p_field (fo := 4) Try.underlying44 rfl Try.sizeOf22 rfl rfl rfl) ?_
        refine VD.turn1 18 (by kernel_rfl) ?_
        refine VDT.store (cs' := (tcl id cur last A n c stage ep (updT td kf (tNw (td kf) last)) prop com)) (v := .int _ _) Try.sizeOf22 rfl rfl rfl rfl rfl rfl hm 0 0 rfl (by show 0 + 6 + kf * 5 + 4 + 1 ≤ 48; omega) hst2 (fun w' hm' => Kept.of0 hm') ?_
        intro w hm
        refine VD.nil (by kernel_rfl) rfl ?_
        rotate_left 1
        refine VDT.val rfl rfl rfl (r_load (v := .int _ _) Try.isAgg22 rfl (hm.at_ 0 0 rfl) rfl) (Kept.of0 hm) ?_
        refine VD.turn1 8 (by kernel_rfl) ?_
        refine VDT.val rfl rfl rfl (r_load (v := .int _ _) Try.isAgg22 rfl (hm.at_ 0 0 rfl) hak) (Kept.of0 hm) ?_
        refine VD.pure 13 rfl (by kernel_rfl) rfl rfl (p_max rfl rfl) ?_
        refine VD.pure 16 rfl (by kernel_rfl) rfl rfl (p_idxA Try.underlying45 Try.sizeOf44 rfl rfl hk8) ?_
        refine VD.pure 17 rfl (by kernel_rfl) rfl rfl (p_field (fo := 4) Try.underlying44 rfl Try.sizeOf22 rfl rfl rfl) ?_
        refine VD.turn1 18 (by kernel_rfl) ?_
        refine VDT.store (cs' := (tcl id cur last A n c stage ep (updT td kf (tNw (td kf) last)) prop com)) (v := .int _ _) Try.sizeOf22 rfl rfl rfl rfl rfl rfl hm 0 0 rfl (by show 0 + 6 + kf * 5 + 4 + 1 ≤ 48; omega) hst2 (fun w' hm' => Kept.of0 hm') ?_
        intro w hm
        refine VD.nil (by kernel_rfl) rfl ?_
        rotate_left 1
        all_goals exact ⟨(), ⟨rfl, trivial⟩, hm⟩
      clear hm
      rintro _ A9 w hm
      have hIt : AInv ((Tb.abs ⟨id, cur, last, A, n, c, es, stage, ep, td, prop, com⟩).tell (updT td kf (tNw (td kf) last))) := hI.tell (td := updT td kf (tNw (td kf) last)) (updT_same (d := tNw (td kf) last) rfl _) fun k hk => by rw [updT_same (d := tNw (td kf) last) rfl]; exact hacc k hk
      repeat (first | refine VC.seq ?_ | refine VC.block ?_ | refine VC.skip ?_)
      refine VC.region ?_
      refine VR.pure rfl rfl (p_moveP rfl) ?_
      refine VR.call rfl rfl (r_call1 Try.call26 rfl) (on_c (T0 := ⟨id, cur, last, A, n, c, es, stage, ep, updT td kf (tNw (td kf) last), prop, com⟩) hm ⟨hT.row, hT.n, hT.nc, hT.c, hT.id, hIt.acc⟩ hst.2) ?_
      rintro _ w ⟨T1, hab1, hT1, hm⟩
      refine VR.nil ?_
      have hI1 : AInv T1.abs := by rw [hab1]; exact hIt.on
      have hn1 : T1.stage = 4 → T1.n = 1 := fun h => by
        have h1 := (hI1.four h).1
        have h2 := hT1.row.len
        rw [← h2]
        have h3 : (T1.es.map En.abs).length = 1 := h1
        rwa [List.length_map] at h3
      repeat (first | refine VC.seq ?_ | refine VC.block ?_ | refine VC.skip ?_)
      refine VC.region ?_
      refine VR.pure rfl rfl (p_moveP rfl) ?_
      refine VR.call rfl rfl (r_call1 Try.call30 rfl) (commit_c hm hT1 hn1 hI1.ep hI1.prop ⟨hI1.com, fun h ↦ (hI1.four h).2⟩) ?_
      rintro _ w ⟨T2, hab2, hT2, hm⟩
      refine VR.nil ?_
      repeat (first | refine VC.seq ?_ | refine VC.block ?_ | refine VC.skip ?_)
      repeat (first | refine VC.seq ?_ | refine VC.block ?_ | refine VC.skip ?_)
      refine VC.region ?_
      refine VR.pure rfl rfl (p_moveP rfl) ?_
      refine VR.pure rfl rfl (p_nilCheck rfl) ?_
      refine VR.pure rfl rfl (p_field (fo := 4) Try.underlying47 rfl Try.sizeOf32 rfl rfl rfl) ?_
      refine VR.val rfl rfl (r_load (v := .int _ _) Try.isAgg32 rfl (hm.at_ 0 0 rfl) rfl) ?_
      refine VR.pure rfl rfl (p_assignI rfl) ?_
      refine VR.nil ?_
      repeat (first | refine VC.seq ?_ | refine VC.block ?_ | refine VC.skip ?_)
      refine VC.ret ⟨_, ResOf.r1 (v := .int _ _) rfl rfl, ?_⟩
      refine ⟨T2, rfl, ?_, hT2, hm⟩
      rw [hab2, hab1]
      unfold ackA
      rw [if_pos (by show (stage = 3 ∨ stage = 4) ∧ 1 ≤ (kf : Int) ∧ (kf : Int) ≤ 7; omega)]
      rfl
    · repeat (first | refine VC.seq ?_ | refine VC.block ?_ | refine VC.skip ?_)
      repeat (first | refine VC.seq ?_ | refine VC.block ?_ | refine VC.skip ?_)
      refine VC.region ?_
      refine VR.pure rfl rfl (p_moveP rfl) ?_
      refine VR.pure rfl rfl (p_nilCheck rfl) ?_
      refine VR.pure rfl rfl (p_field (fo := 4) Try.underlying47 rfl Try.sizeOf32 rfl rfl rfl) ?_
      refine VR.val rfl rfl (r_load (v := .int _ _) Try.isAgg32 rfl (hm.at_ 0 0 rfl) rfl) ?_
      refine VR.pure rfl rfl (p_assignI rfl) ?_
      refine VR.nil ?_
      repeat (first | refine VC.seq ?_ | refine VC.block ?_ | refine VC.skip ?_)
      refine VC.ret ⟨_, ResOf.r1 (v := .int _ _) rfl rfl, ?_⟩
      refine ⟨⟨id, cur, last, A, n, c, es, stage, ep, td, prop, com⟩, rfl, ?_, hT, hm⟩
      unfold ackA
      rw [if_neg (by show ¬ ((stage = 3 ∨ stage = 4) ∧ 1 ≤ frm ∧ frm ≤ 7); omega)]
  · repeat (first | refine VC.seq ?_ | refine VC.block ?_ | refine VC.skip ?_)
    refine VC.condF rfl rfl ?_
    repeat (first | refine VC.seq ?_ | refine VC.block ?_ | refine VC.skip ?_)
    repeat (first | refine VC.seq ?_ | refine VC.block ?_ | refine VC.skip ?_)
    refine VC.region ?_
    refine VR.pure rfl rfl (p_moveP rfl) ?_
    refine VR.pure rfl rfl (p_nilCheck rfl) ?_
    refine VR.pure rfl rfl (p_field (fo := 4) Try.underlying47 rfl Try.sizeOf32 rfl rfl rfl) ?_
    refine VR.val rfl rfl (r_load (v := .int _ _) Try.isAgg32 rfl (hm.at_ 0 0 rfl) rfl) ?_
    refine VR.pure rfl rfl (p_assignI rfl) ?_
    refine VR.nil ?_
    repeat (first | refine VC.seq ?_ | refine VC.block ?_ | refine VC.skip ?_)
    refine VC.ret ⟨_, ResOf.r1 (v := .int _ _) rfl rfl, ?_⟩
    refine ⟨⟨id, cur, last, A, n, c, es, stage, ep, td, prop, com⟩, rfl, ?_, hT, hm⟩
    unfold ackA
    rw [if_neg (by show ¬ ((stage = 3 ∨ stage = 4) ∧ 1 ≤ frm ∧ frm ≤ 7); omega)]
end
end Go.Bd
