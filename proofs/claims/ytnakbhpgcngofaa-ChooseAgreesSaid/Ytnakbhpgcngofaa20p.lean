/- Arguments of layer 20 opened: letters, what is done to a chooser. Conditions: as each states. -/
import Derived.Test.Ytnakbhpgcngofaa20o
import Derived.Test.Ytnakbhpgcngofaa20w
namespace Go.Bd
open Go.Proofs Go.ChangeShapes Go.WideShapes
set_option linter.unusedVariables false
set_option maxRecDepth 20000

theorem at_of_take {l : List Value} {k : Nat} {v : Value} (h : (l.drop k).take 1 = [v]) : l[k]? = some v := by
  have : ((l.drop k).take 1)[0]? = some v := by rw [h]; rfl
  rw [List.getElem?_take, if_pos (by decide), List.getElem?_drop] at this
  exact this
/-- A letter as it lies. -/
structure Lc where
  cs : List Value
  hl : cs.length = 43
  one : ∀ v ∈ cs, v.oneCell' = true
  t : Lt
  at_ : LetAt cs.toArray t
structure Dd where
  kind : Int
  frm : Int
  l : Lc
  A : Option Addr
  n : Nat
  c : Nat
  es : List En
def Dd.cells (x : Dd) : List Value := [.int .i64 x.kind, .int .i64 x.frm] ++ (x.l.cs ++ [.slice x.A x.n x.c])
theorem Dd.len (x : Dd) : x.cells.length = 46 := by
  unfold Dd.cells
  rw [List.length_append, List.length_append, x.l.hl]
  rfl
theorem Dd.let_ (x : Dd) {i : Nat} (hi : i < 43) : x.cells[2 + i]? = x.l.cs[i]? := by
  have := x.l.hl
  unfold Dd.cells
  rw [List.getElem?_append_right (by simp), List.getElem?_append_left (by simp; omega)]
  exact congrArg (fun k => x.l.cs[k]?) (by simp)
theorem Dd.cfg (x : Dd) : x.cells[2 + 43]? = some (.slice x.A x.n x.c) := by
  have := x.l.hl
  unfold Dd.cells
  rw [List.getElem?_append_right (by simp), List.getElem?_append_right (by simp; omega)]
  simp [this]
theorem Lc.k (l : Lc) : l.cs[0]? = some (.int .u8 l.t.k) := by have := l.at_.k; simpa using this
theorem Lc.s (l : Lc) : l.cs[1]? = some (.int .u8 l.t.s) := by have := l.at_.s; simpa using this
theorem Lc.r (l : Lc) : l.cs[2]? = some (.int .i64 l.t.r) := by have := l.at_.r; simpa using this
theorem Lc.ld (l : Lc) : l.cs[3]? = some (.int .i64 l.t.l) := by have := l.at_.l; simpa using this
theorem Lc.e (l : Lc) : l.cs[4]? = some (.int .i64 l.t.e) := by have := l.at_.e; simpa using this
theorem Lc.z (l : Lc) : l.cs[7]? = some (.int .i64 l.t.z) := by have := l.at_.z; simpa using this

section
variable {H : Type} {enc : TypeId × Value → H} {W : World}
theorem cells_Dd : Try.prog.cellsOf 54 = 46 := by kernel_rfl
theorem cells_Lt : Try.prog.cellsOf 52 = 43 := by kernel_rfl
theorem cells_Lk : Try.prog.cellsOf 34 = 1 := by kernel_rfl
theorem cells_St : Try.prog.cellsOf 35 = 1 := by kernel_rfl
theorem cells_es : Try.prog.cellsOf 23 = 1 := by kernel_rfl
/-- Types of which each cell is one value: numbers, bools, strings, slices, structs of these. -/
def flatF (P : Program) (chk : TypeId → Bool) : Nat → List Field → Nat → Bool
  | o, [], tot => o == tot
  | o, f :: r, tot => f.offset == o && chk f.type && flatF P chk (o + P.cellsOf f.type) r tot
def flatT (P : Program) : Nat → TypeId → Bool
  | 0, _ => false
  | m + 1, t => match P.underlying t with
    | some .bool => true
    | some (.int _) => true
    | some .string => true
    | some (.slice _) => true
    | some (.struct fs) => flatF P (flatT P m) 0 fs.toList (P.cellsOf t)
    | _ => false
theorem flatF_one {P : Program} {chk : TypeId → Bool} {k : Nat} {cs : List Value} {tot : Nat} (hl : cs.length = tot)
    (ih : ∀ t, chk t = true → ∀ cs' (y : DataW H × List MemPlace), DataW.trod enc P W 0 (fun _ => true) true k t cs' = some y → ∀ v ∈ cs', v.oneCell' = true) :
    ∀ (l : List Field) (o : Nat), flatF P chk o l tot = true → (∀ f ∈ l, ∃ y : DataW H × List MemPlace, DataW.trod enc P W 0 (fun _ => true) true k f.type ((cs.drop f.offset).take (P.cellsOf f.type)) = some y) → ∀ v ∈ cs.drop o, v.oneCell' = true
  | [], o, h, _, v, hv => by
    unfold flatF at h
    rw [beq_iff_eq] at h
    rw [List.drop_of_length_le (by omega)] at hv
    exact absurd hv (by simp)
  | f :: r, o, h, hf, v, hv => by
    unfold flatF at h
    rw [Bool.and_eq_true, Bool.and_eq_true, beq_iff_eq] at h
    obtain ⟨⟨rfl, h1⟩, h2⟩ := h
    have hc : cs.drop f.offset = (cs.drop f.offset).take (P.cellsOf f.type) ++ cs.drop (f.offset + P.cellsOf f.type) := by
      have := (List.take_append_drop (P.cellsOf f.type) (cs.drop f.offset)).symm
      rwa [List.drop_drop] at this
    rw [hc] at hv
    rcases List.mem_append.1 hv with hv | hv
    · obtain ⟨y, hy⟩ := hf f (.head _)
      exact ih _ h1 _ _ hy v hv
    · exact flatF_one hl ih r _ h2 (fun g hg => hf g (.tail _ hg)) v hv
theorem flat_ones {P : Program} : ∀ (m : Nat) (t : TypeId), flatT P m t = true → ∀ (n : Nat) (cs : List Value) (y : DataW H × List MemPlace), DataW.trod enc P W 0 (fun _ => true) true n t cs = some y → ∀ v ∈ cs, v.oneCell' = true
  | 0, _, h, _, _, _, _ => by cases h
  | m + 1, t, h, n, cs, y, hy => by
    unfold flatT at h
    split at h
    · rename_i ht
      obtain ⟨b, rfl, _⟩ := DataW.trod_bool ht hy
      intro v hv
      rw [List.mem_singleton.1 hv]
      rfl
    · rename_i k ht
      obtain ⟨b, rfl, _⟩ := DataW.trod_int ht hy
      intro v hv
      rw [List.mem_singleton.1 hv]
      rfl
    · rename_i ht
      obtain ⟨b, rfl, _⟩ := DataW.trod_string ht hy
      intro v hv
      rw [List.mem_singleton.1 hv]
      rfl
    · rename_i e ht
      intro v hv
      rcases DataW.trod_slice ht hy with ⟨rfl, _⟩ | ⟨a, len, cap, _, _, _, _, rfl, _⟩
      · rw [List.mem_singleton.1 hv]
        rfl
      · rw [List.mem_singleton.1 hv]
        rfl
    · rename_i fs ht
      obtain ⟨xs, k, _, _, hl, hxl, hf⟩ := DataW.trod_struct ht hy
      have := flatF_one (k := k) hl (fun t' ht' cs' y' hy' => flat_ones m t' ht' k cs' y' hy') fs.toList 0 h fun f hfm => by
        obtain ⟨i, hi, rfl⟩ := List.mem_iff_getElem.1 hfm
        have hi' : i < fs.size := by simpa using hi
        refine ⟨xs[i]'(by omega), ?_⟩
        rw [hf i _ (by rw [Array.getElem?_eq_getElem hi']; simp), List.getElem?_eq_getElem]
      rwa [List.drop_zero] at this
    · cases h
theorem open_letter (n : Nat) (cs : List Value) (y : DataW H × List MemPlace) (h : DataW.trod enc Try.prog W 0 (fun _ => true) true n 52 cs = some y) : ∃ l : Lc, cs = l.cs := by
  obtain ⟨xs, k, _, rfl, hl, hxl, hf⟩ := DataW.trod_struct Try.underlying52 h
  rw [cells_Lt] at hl
  have hxl' : xs.length = 14 := hxl
  match xs, hxl' with
  | [x0, x1, x2, x3, x4, x5, x6, x7, x8, x9, x10, x11, x12, x13], _ =>
    have h0 : DataW.trod enc Try.prog W 0 (fun _ => true) true k 34 ((cs.drop 0).take (Try.prog.cellsOf 34)) = some x0 := hf 0 _ rfl
    have h1 : DataW.trod enc Try.prog W 0 (fun _ => true) true k 35 ((cs.drop 1).take (Try.prog.cellsOf 35)) = some x1 := hf 1 _ rfl
    have h2 : DataW.trod enc Try.prog W 0 (fun _ => true) true k 3 ((cs.drop 2).take (Try.prog.cellsOf 3)) = some x2 := hf 2 _ rfl
    have h3 : DataW.trod enc Try.prog W 0 (fun _ => true) true k 3 ((cs.drop 3).take (Try.prog.cellsOf 3)) = some x3 := hf 3 _ rfl
    have h4 : DataW.trod enc Try.prog W 0 (fun _ => true) true k 3 ((cs.drop 4).take (Try.prog.cellsOf 3)) = some x4 := hf 4 _ rfl
    have h7 : DataW.trod enc Try.prog W 0 (fun _ => true) true k 22 ((cs.drop 7).take (Try.prog.cellsOf 22)) = some x7 := hf 7 _ rfl
    rw [cells_Lk] at h0
    rw [cells_St] at h1
    rw [cells_i] at h2 h3 h4
    rw [cells_z] at h7
    obtain ⟨n0, e0, _⟩ := DataW.trod_int (x := x0) Try.underlying34 h0
    obtain ⟨n1, e1, _⟩ := DataW.trod_int (x := x1) Try.underlying35 h1
    obtain ⟨n2, e2, _⟩ := DataW.trod_int (x := x2) Try.underlying3 h2
    obtain ⟨n3, e3, _⟩ := DataW.trod_int (x := x3) Try.underlying3 h3
    obtain ⟨n4, e4, _⟩ := DataW.trod_int (x := x4) Try.underlying3 h4
    obtain ⟨n7, e7, _⟩ := DataW.trod_int (x := x7) Try.underlying22 h7
    exact ⟨⟨cs, hl, flat_ones 4 52 (by kernel_rfl) _ _ _ h, ⟨n0, n1, n2, n3, n4, n7⟩, ⟨by simpa using at_of_take e0, by simpa using at_of_take e1, by simpa using at_of_take e2, by simpa using at_of_take e3, by simpa using at_of_take e4, by simpa using at_of_take e7⟩⟩, rfl⟩
theorem cut_at {l : List Value} (i k : Nat) : l.drop i = (l.drop i).take k ++ l.drop (i + k) := by
  have := (List.take_append_drop k (l.drop i)).symm
  rwa [List.drop_drop] at this
def DdOk (H : Nat → Option Obj) (x : Dd) : Prop := ERow H x.A x.n x.es ∧ x.n ≤ x.c ∧ x.c ≤ maxLen ∧ x.c * 32 ≤ reachBytes ∧ ∀ e ∈ x.es, e.c * 32 ≤ reachBytes
theorem open_deed (n : Nat) (cs : List Value) (y : DataW H × List MemPlace) (h : DataW.trod enc Try.prog W 0 (fun _ => true) true n 54 cs = some y) (hw : Light Try.prog 54 y.1) :
    ∃ x : Dd, cs = x.cells ∧ DdOk (Env.of W).heap x := by
  obtain ⟨xs, k, _, rfl, hl, hxl, hf⟩ := DataW.trod_struct Try.underlying54 h
  replace hw := Light.struct Try.underlying54 hw
  rw [cells_Dd] at hl
  match xs, hxl with
  | [x0, x1, x2, x3], _ =>
    have h0 : DataW.trod enc Try.prog W 0 (fun _ => true) true k 3 ((cs.drop 0).take (Try.prog.cellsOf 3)) = some x0 := hf 0 _ rfl
    have h1 : DataW.trod enc Try.prog W 0 (fun _ => true) true k 3 ((cs.drop 1).take (Try.prog.cellsOf 3)) = some x1 := hf 1 _ rfl
    have h2 : DataW.trod enc Try.prog W 0 (fun _ => true) true k 52 ((cs.drop 2).take (Try.prog.cellsOf 52)) = some x2 := hf 2 _ rfl
    have h3 : DataW.trod enc Try.prog W 0 (fun _ => true) true k 23 ((cs.drop (2 + 43)).take (Try.prog.cellsOf 23)) = some x3 := hf 3 _ rfl
    rw [cells_i] at h0 h1
    rw [cells_Lt] at h2
    rw [cells_es] at h3
    obtain ⟨n0, e0, _⟩ := DataW.trod_int (x := x0) Try.underlying3 h0
    obtain ⟨n1, e1, _⟩ := DataW.trod_int (x := x1) Try.underlying3 h1
    obtain ⟨l, e2⟩ := open_letter _ _ _ h2
    obtain ⟨A, n, c, es, e3, h4, h5, h6, h7, h8, _⟩ := open_rows (cells := En.cells) (Q := fun e => EnOk (Env.of W).heap e ∧ e.c * 32 ≤ reachBytes) Try.underlying23 cells_En (by decide) En.len open_ens (y := x3) h3 hw.cons.2.cons.2.cons.2.cons.1
    rw [bytes_En] at h6
    refine ⟨⟨n0, n1, l, A, n, c, es⟩, ?_, ⟨h7, fun e he => (h8 e he).1⟩, h4, h5, h6, fun e he => (h8 e he).2⟩
    unfold Dd.cells
    have c0 := cut_at (l := cs) 0 1
    have c1 := cut_at (l := cs) 1 1
    have c2 := cut_at (l := cs) 2 43
    have c3 := cut_at (l := cs) (2 + 43) 1
    rw [e0] at c0
    rw [e1] at c1
    rw [e2] at c2
    rw [e3, List.drop_of_length_le (i := 2 + 43 + 1) (by rw [hl]; decide)] at c3
    rw [c3] at c2
    rw [c2] at c1
    rw [show 0 + 1 = 1 from rfl, c1, List.drop_zero] at c0
    exact c0
theorem open_deeds {v : Value} {d : DataW H} {ps : List MemPlace} {r : Reach} {base : Nat} (hv : Value.okWide Try.prog W r base 24 v) (h : DataW.Trod enc Try.prog W 0 (fun _ => true) true 24 v d ps) (hw : Light Try.prog 24 d) :
    ∃ (A : Option Addr) (n c : Nat) (ds : List Dd), v = .slice A n c ∧ n ≤ c ∧ c ≤ maxLen ∧ Row (Env.of W).heap A (n * 46) (ds.flatMap Dd.cells) ∧ (∀ x ∈ ds, DdOk (Env.of W).heap x) ∧ ds.length = n := by
  obtain ⟨a0, len0, cap0, rfl⟩ := okWide_slice Try.underlying24 hv
  obtain ⟨fuel, hf⟩ := h
  obtain ⟨A, n, c, es, h1, h2, h3, h4, h5, h6, h7⟩ := open_rows (cells := Dd.cells) (Q := DdOk (Env.of W).heap) Try.underlying24 cells_Dd (by decide) Dd.len open_deed hf hw
  simp [Value.cells] at h1
  obtain ⟨rfl, rfl, rfl⟩ := h1
  exact ⟨a0, len0, cap0, es, rfl, h2, h3, h5, h6, h7⟩
end
end Go.Bd
