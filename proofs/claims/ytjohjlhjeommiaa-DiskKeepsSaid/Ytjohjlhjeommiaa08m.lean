/- Contracts of layer 8: a disk whose state is known; strings put together, strings.Repeat, zeroes. Conditions: as each states. -/
import Derived.Test.Ytjohjlhjeommiaa08h
import Derived.Test.Ytjohjlhjeommiaa08r
namespace Go.Bd
open Go.Proofs
set_option linter.unusedVariables false
set_option maxRecDepth 20000

section
variable {F : Env} {w : World} {Ls : List Blks} {g m : Nat} {D : Dk} {d d' : Da} {s t : ByteArray} {c n : Int}
theorem fs_len {D : Dk} {d : Da} (h : D.abs = d) : D.fs.length = d.fs.length := by
  have := congrArg (fun d => d.fs.length) h
  have h2 : (D.fs.map Fl.abs).length = d.fs.length := this
  rwa [List.length_map] at h2
theorem newK (hm : Mem F w Ls) (hr : n ≤ 9223372036854775807) (h : max n 0 = c) :
    Calls Try.prog 11 #[.int .i64 n] w (Ret fun v w' => ∃ g m D, v = .pointer (some ⟨g, 0, none⟩) ∧ D.abs = ⟨c, []⟩ ∧ DkOk D ∧ Mem F w' (dkB g m D ++ Ls)) := by
  rw [← h]
  exact new_c hm hr
theorem appK {B : Option Addr} {k q : Nat} {b : List Int} (hm : Mem F w (dkB g m D ++ Ls)) (hD : DkOk D) (ha : D.abs = d) (hs : s.size ≤ maxLen) (hn : k ≤ 140737488355328) (hb : BRow F.heap B k b) (h : appD d s b = (c, d')) :
    Calls Try.prog 12 #[.pointer (some ⟨g, 0, none⟩), .string s, .slice B k q] w (Ret fun v w' => ∃ D', v = .int .i64 c ∧ D'.abs = d' ∧ DkOk D' ∧ Mem F w' (dkB g m D' ++ Ls)) :=
  Ret.mono (append_c hm.focus hD hs hn (hb.mono hm.leR)) fun v w' ⟨D', h1, h2, h3, h4⟩ => ⟨D', by rw [h1, ha, h], by rw [h2, ha, h], h3, hm.unL h4⟩
theorem syncK (hm : Mem F w (dkB g m D ++ Ls)) (hD : DkOk D) (ha : D.abs = d) (h : syncD d s = (c, d')) :
    Calls Try.prog 13 #[.pointer (some ⟨g, 0, none⟩), .string s] w (Ret fun v w' => ∃ D', v = .int .i64 c ∧ D'.abs = d' ∧ DkOk D' ∧ Mem F w' (dkB g m D' ++ Ls)) :=
  Ret.mono (sync_c hm.focus hD) fun v w' ⟨D', h1, h2, h3, h4⟩ => ⟨D', by rw [h1, ha, h], by rw [h2, ha, h], h3, hm.unL h4⟩
theorem cutK (hm : Mem F w (dkB g m D ++ Ls)) (hD : DkOk D) (ha : D.abs = d) (h : cutD d s n = (c, d')) :
    Calls Try.prog 22 #[.pointer (some ⟨g, 0, none⟩), .string s, .int .i64 n] w (Ret fun v w' => ∃ D', v = .int .i64 c ∧ D'.abs = d' ∧ DkOk D' ∧ Mem F w' (dkB g m D' ++ Ls)) :=
  Ret.mono (cut_c hm.focus hD) fun v w' ⟨D', h1, h2, h3, h4⟩ => ⟨D', by rw [h1, ha, h], by rw [h2, ha, h], h3, hm.unL h4⟩
theorem renK (hm : Mem F w (dkB g m D ++ Ls)) (hD : DkOk D) (ha : D.abs = d) (hs : s.size ≤ maxLen) (ht : t.size ≤ maxLen) (h : renD d s t = (c, d')) :
    Calls Try.prog 18 #[.pointer (some ⟨g, 0, none⟩), .string s, .string t] w (Ret fun v w' => ∃ D', v = .int .i64 c ∧ D'.abs = d' ∧ DkOk D' ∧ Mem F w' (dkB g m D' ++ Ls)) :=
  Ret.mono (rename_c hm.focus hD hs ht) fun v w' ⟨D', h1, h2, h3, h4⟩ => ⟨D', by rw [h1, ha, h], by rw [h2, ha, h], h3, hm.unL h4⟩
theorem remD_fs (d : Da) (s : ByteArray) : (remD d s).2 = ⟨d.room, delA d.fs s⟩ := by
  unfold remD
  cases h : inA d.fs s with
  | some _ => rfl
  | none =>
    show d = _
    rw [delA_none]
    intro f hf e
    unfold inA at h
    rw [List.find?_eq_none] at h
    exact h f hf (decide_eq_true e)
theorem remK (hm : Mem F w (dkB g m D ++ Ls)) (hD : DkOk D) (ha : D.abs = d) (h : remD d s = (c, d')) :
    Calls Try.prog 23 #[.pointer (some ⟨g, 0, none⟩), .string s] w (Ret fun v w' => ∃ D', v = .int .i64 c ∧ D'.abs = d' ∧ DkOk D' ∧ Mem F w' (dkB g m D' ++ Ls)) :=
  Ret.mono (remove_c hm.focus hD) fun v w' ⟨used, h1, h3, h4⟩ => ⟨_, by rw [h1, ha, h], by
    have e := remD_fs d s
    rw [h] at e
    rw [show d' = _ from e, ← ha]
    unfold Dk.abs
    dsimp only
    rw [delFl_abs], h3, hm.unL h4⟩
theorem crashK (hm : Mem F w (dkB g m D ++ Ls)) (hD : DkOk D) (ha : D.abs = d) (h : crashD d n = d') :
    Calls Try.prog 15 #[.pointer (some ⟨g, 0, none⟩), .int .i64 n] w (Ret fun v w' => ∃ D', D'.abs = d' ∧ DkOk D' ∧ Mem F w' (dkB g m D' ++ Ls)) :=
  Ret.mono (crash_c hm.focus hD) fun v w' ⟨D', h2, h3, h4⟩ => ⟨D', by rw [h2, ha, h], h3, hm.unL h4⟩
/-- What is read, frozen. -/
theorem readK {l : List Int} (hm : Mem F w (dkB g m D ++ Ls)) (hD : DkOk D) (ha : D.abs = d) (h : readA d s = (c, l)) :
    Calls Try.prog 16 #[.pointer (some ⟨g, 0, none⟩), .string s] w (Ret fun v w' => ∃ A k q G, v = .tuple #[.slice A k q, .int .i64 c] ∧ k = l.length ∧ k ≤ 4194304 ∧ F.under G ∧ BRow G.heap A k l ∧ Mem G w' (dkB g m D ++ Ls)) :=
  Ret.mono (read_c hm.focus hD) fun v w' ⟨A, k, q, L, h1, h2, h3, h4⟩ => by
    rw [ha, h] at h1 h2
    obtain ⟨G, hu, hm2, hL⟩ := (show Mem F w' (L :: (dkB g m D ++ Ls)) from hm.unL h4).freeze
    have hr := h2.row1 hL
    exact ⟨A, k, q, G, h1, (BRow.len hr).symm, h3, hu, hr, hm2⟩
theorem usedK (hm : Mem F w (dkB g m D ++ Ls)) (hD : DkOk D) (ha : D.abs = d) (h : sumL d.fs = c) :
    Calls Try.prog 24 #[.pointer (some ⟨g, 0, none⟩)] w (Ret fun v w' => v = .int .i64 c ∧ Mem F w' (dkB g m D ++ Ls)) :=
  Ret.mono (used_c hm.focus hD) fun v w' ⟨h1, h4⟩ => ⟨by rw [h1, ha, h], hm.unL h4⟩
theorem listK {l : List ByteArray} (hm : Mem F w (dkB g m D ++ Ls)) (hD : DkOk D) (ha : D.abs = d) (hl : d.fs.length ≤ 1000000) (h : sortN (d.fs.map (·.1)) = l) :
    Calls Try.prog 20 #[.pointer (some ⟨g, 0, none⟩)] w (Ret fun v w' => ∃ A q G, v = .slice A l.length q ∧ l.length ≤ q ∧ q ≤ maxLen ∧ F.under G ∧ Row G.heap A l.length (texts l) ∧ Mem G w' (dkB g m D ++ Ls)) :=
  Ret.mono (list_c hm.focus hD (by rw [fs_len ha]; exact hl)) fun v w' ⟨A, q, L, h1, h2, h5⟩ => by
    rw [ha, h] at h1 h2
    obtain ⟨G, hu, hm2, hL⟩ := (show Mem F w' (L :: (dkB g m D ++ Ls)) from hm.unL h5).freeze
    exact ⟨A, q, G, h1, h2.le.1, h2.le.2, hu, h2.row1 hL, hm2⟩

/-! ### Texts, zeroes -/
theorem Mem.under {F : Env} {w w' : World} {Ls : List Blks} (h : Mem F w Ls) (hb : RowKit.Below w.heap.size w w') : Mem F w' Ls :=
  ⟨hb.os.trans h.os, hb.tape.trans h.tape, hb.output.trans h.output, fun b o e => by
      have h1 := h.fix b o e
      rw [hb.block b (Array.getElem?_eq_some_iff.1 h1).1]
      exact h1, fun p hp => by
      have h1 := h.own p hp
      rw [hb.block p.1 (Array.getElem?_eq_some_iff.1 h1).1]
      exact h1, h.sep, h.nodup⟩
theorem repeat_c {k : Nat} (hm : Mem F w Ls) (hk : k ≤ 9223372036854775807) (hl : s.size * k ≤ 140737488355328) {r : ByteArray} (hr : ⟨(Lib.repeatL s.data.toList k).toArray⟩ = r) :
    Calls Try.prog 25 #[.string s, .int .i64 (k : Int)] w (Ret fun v w' => v = .string r ∧ Mem F w' Ls) :=
  (Try.strings_Repeat s k w hk hl).mono fun e w' ⟨h1, h2⟩ => ⟨_, h1, by rw [hr], hm.under h2⟩
theorem p_addS {P : Program} {f : Fr} {dst : Option Tmp} {ty : TypeId} {pos : String} {after : Array Edge} {gd : Option (Nat × Bool)} {tx t' : TypeId} {x y : Operand} {a b r : ByteArray} (hx : f.ev x = .string a) (hy : f.ev y = .string b) (hl : a.size + b.size ≤ maxLen) (hr : a ++ b = r) :
    Pure P f ⟨dst, .binOp .add tx x y t', ty, pos, after, gd⟩ (.string r) := fun w => by
  subst hr
  have h1 : ¬ ((a.size + b.size : Nat) : Int) > IntKind.i64.max := by
    unfold maxLen at hl
    show ¬ ((a.size + b.size : Nat) : Int) > 9223372036854775807
    omega
  have h0 : (binOp .add tx (.string a) (.string b)).run P w = .ok (.string (a ++ b)) w := by
    have h2 : (binOp .add tx (.string a) (.string b)).run P w = (Op.stringOp .add a b).run P w := by simp [binOp]
    rw [h2]
    unfold Op.stringOp
    simp only [if_neg h1]
    rfl
  have he : (eqGuard .add tx x y (.string a) (.string b)).run P w = .ok () w := by simp [eqGuard]
  simp [execOp, hx, hy, he, h0]
theorem made_zero (n : Nat) : madeCells (Value.int .u8 0).cells (n * 1) = (bytes (List.replicate n 0)).toArray := by
  rw [Nat.mul_one]
  apply Array.ext_getElem?
  intro i
  unfold madeCells bytes
  have e2 : (List.map (Value.int IntKind.u8) (List.replicate n 0)).toArray[i]? = Option.map (Value.int IntKind.u8) (if i < n then some 0 else none) := by
    rw [List.getElem?_toArray, List.getElem?_map, List.getElem?_replicate]
  rw [e2, Array.getElem?_map]
  by_cases h : i < n
  · rw [if_pos h, Array.getElem?_eq_getElem (by rw [Array.size_range]; exact h), Array.getElem_range]
    show some ((Value.int .u8 0).cells[i % 1]!) = some (Value.int .u8 0)
    rw [Nat.mod_one]
    rfl
  · rw [if_neg h, Array.getElem?_eq_none (by rw [Array.size_range]; omega)]
    rfl
theorem made_row {H : Nat → Option Obj} {b n : Nat} {T : TypeId} {fr : Nat × Nat} (h : H b = some (.cells (madeCells (Value.int .u8 0).cells (n * 1)) T fr)) : ∃ z : List Int, z.length = n ∧ BRow H (some ⟨b, 0, none⟩) n z := by
  rw [made_zero] at h
  refine ⟨List.replicate n 0, List.length_replicate, ?_⟩
  have := Row.lit h
  rwa [List.length_map, List.length_replicate] at this
end
end Go.Bd
