/- Arguments opened: rows of elements of several cells, structs, what is within what. Conditions: none; nothing here speaks of one program. -/
import Derived.Test.YtjnplhmhkindpaaAgg
import Derived.Test.YtjnplhmhkindpaaFrame
import Derived.Deep.Slices
import Derived.ChangeArms
namespace Go.Bd
open Go.ChangeShapes Go.WideShapes Go.Deep
set_option linter.unusedVariables false

section
variable {H : Type} {enc : TypeId × Value → H} {P : Program} {W : World}

/-- What a datum weighs is within reach. -/
def Light (P : Program) (t : TypeId) (d : DataW H) : Prop := (d.weights P t).all (· ≤ reachBytes) = true
def LightAll (P : Program) (ts : List TypeId) (ds : List (DataW H)) : Prop := (DataW.weightsEach P ts ds).all (· ≤ reachBytes) = true
theorem LightAll.cons {t : TypeId} {ts : List TypeId} {d : DataW H} {ds : List (DataW H)} (h : LightAll P (t :: ts) (d :: ds)) : Light P t d ∧ LightAll P ts ds := by
  unfold LightAll DataW.weightsEach at h
  rw [List.all_append, Bool.and_eq_true] at h
  exact h
theorem weightsAll_all {e : TypeId} : ∀ {ds : List (DataW H)}, (DataW.weightsAll P e ds).all (· ≤ reachBytes) = true → ∀ d ∈ ds, Light P e d
  | [], _, d, hd => by simp at hd
  | x :: r, h, d, hd => by
    unfold DataW.weightsAll at h
    rw [List.all_append, Bool.and_eq_true] at h
    rcases List.mem_cons.1 hd with rfl | hd
    · exact h.1
    · exact weightsAll_all h.2 d hd
theorem Light.slice {t e : TypeId} {ds sp : List (DataW H)} (ht : P.underlying t = some (.slice e)) (h : Light P t (.slice ds sp)) : (ds.length + sp.length) * P.bytesOf e ≤ reachBytes ∧ ∀ d ∈ ds, Light P e d := by
  unfold Light DataW.weights at h
  rw [ht] at h
  simp only [List.all_cons, List.all_append, Bool.and_eq_true, decide_eq_true_eq] at h
  exact ⟨h.1, weightsAll_all h.2.1⟩
theorem Light.struct {t : TypeId} {fs : Array Field} {ds : List (DataW H)} (ht : P.underlying t = some (.struct fs)) (h : Light P t (.agg ds)) : LightAll P (fs.toList.map (·.type)) ds := by
  unfold Light DataW.weights at h
  rw [ht] at h
  exact h

theorem flat_one1 (f : Int → Value) : ∀ (xs : List Int), xs.flatMap (fun x => [f x]) = xs.map f
  | [] => rfl
  | x :: r => by rw [List.flatMap_cons, List.map_cons, flat_one1 f r]; rfl
theorem list_of {X : Type} {p : Nat → X → Prop} : ∀ (n : Nat), (∀ i, i < n → ∃ x, p i x) → ∃ xs : List X, xs.length = n ∧ ∀ i x, xs[i]? = some x → p i x
  | 0, _ => ⟨[], rfl, by simp⟩
  | n + 1, h => by
    obtain ⟨xs, h1, h2⟩ := list_of n (fun i hi => h i (by omega))
    obtain ⟨x, hx⟩ := h n (by omega)
    refine ⟨xs ++ [x], by simp [h1], fun i y hy => ?_⟩
    by_cases hi : i < n
    · rw [List.getElem?_append_left (by omega)] at hy
      exact h2 i y hy
    · rw [List.getElem?_append_right (by omega)] at hy
      obtain rfl : i = n := by
        have := (List.getElem?_eq_some_iff.1 hy).1
        simp at this
        omega
      rw [h1, Nat.sub_self] at hy
      simp at hy
      subst hy
      exact hx

/-- A slice that came in, opened at every index, with what each element weighs. -/
theorem open_slice_at {t e : TypeId} {fuel : Nat} {cs : List Value} {y : DataW H × List MemPlace} (ht : P.underlying t = some (.slice e)) (h : DataW.trod enc P W 0 (fun _ => true) true fuel t cs = some y) (hw : Light P t y.1) :
    cs = [.slice none 0 0] ∨ ∃ (a : Addr) (len cap n : Nat), fuel = n + 1 ∧ cs = [.slice (some a) len cap] ∧ len ≤ cap ∧ cap ≤ maxLen ∧ cap * P.bytesOf e ≤ reachBytes ∧
      ∀ i, i < len → ∃ cs' z, W.cells? 0 (a.add (i * P.cellsOf e)) (P.cellsOf e) = some cs' ∧ DataW.trod enc P W 0 (fun _ => true) true n e cs' = some z ∧ Light P e z.1 := by
  rcases DataW.trod_slice ht h with ⟨h0, _⟩ | ⟨a, len, cap, elems, rest, n, hf, rfl, rfl, _, hl, hm, hlen, hel, hsp, _⟩
  · exact .inl h0
  · obtain ⟨hwt, hwe⟩ := hw.slice ht
    have hrl := (hsp rfl).1
    refine .inr ⟨a, len, cap, n, hf, rfl, hl, hm, ?_, fun i hi => ?_⟩
    · rw [List.length_map, List.length_map, hlen, hrl, show len + (cap - len) = cap by omega] at hwt
      exact hwt
    · have hk := hel i hi
      rw [List.getElem?_eq_getElem (by omega)] at hk
      obtain ⟨cs', h1, h2⟩ := Option.bind_eq_some_iff.1 hk
      exact ⟨cs', _, h1, h2, hwe _ (List.mem_map.2 ⟨_, List.getElem_mem _, rfl⟩)⟩
/-- A slice that came in, as a row of elements of s cells each. -/
theorem open_rows_lt {X : Type} {t e : TypeId} {s : Nat} {cells : X → List Value} {Q : X → Prop} (ht : P.underlying t = some (.slice e)) (hC : P.cellsOf e = s) (hs : 0 < s) (hcells : ∀ x, (cells x).length = s)
    {fuel : Nat} (elem : ∀ n, n < fuel → ∀ cs (y : DataW H × List MemPlace), DataW.trod enc P W 0 (fun _ => true) true n e cs = some y → Light P e y.1 → ∃ x, cs = cells x ∧ Q x)
    {cs : List Value} {y : DataW H × List MemPlace} (h : DataW.trod enc P W 0 (fun _ => true) true fuel t cs = some y) (hw : Light P t y.1) :
    ∃ (A : Option Addr) (n c : Nat) (xs : List X), cs = [.slice A n c] ∧ n ≤ c ∧ c ≤ maxLen ∧ c * P.bytesOf e ≤ reachBytes ∧ Row (Env.of W).heap A (n * s) (xs.flatMap cells) ∧ (∀ x ∈ xs, Q x) ∧ xs.length = n := by
  rcases open_slice_at ht h hw with rfl | ⟨a, len, m, n, rfl, rfl, hl, hm, hbytes, hx⟩
  · refine ⟨none, 0, 0, [], rfl, Nat.le_refl _, Nat.zero_le _, by simp, ?_, by simp, rfl⟩
    rw [Nat.zero_mul]
    exact Row.nil _
  · subst hC
    obtain ⟨xs, hxl, hxs⟩ := list_of (p := fun i x => Q x ∧ W.cells? 0 (a.add (i * P.cellsOf e)) (P.cellsOf e) = some (cells x)) len (fun i hi => by
      obtain ⟨cs', z, h1, h2, h3⟩ := hx i hi
      obtain ⟨x, rfl, hq⟩ := elem n (by omega) cs' _ h2 h3
      exact ⟨x, hq, h1⟩)
    refine ⟨some a, len, m, xs, rfl, hl, hm, hbytes, ⟨by rw [flat_len hcells, hxl], ?_⟩, fun x hx => ?_, hxl⟩
    · rcases Nat.eq_zero_or_pos len with h0 | h0
      · exact .inl (by rw [h0, Nat.zero_mul])
      · right
        have cell : ∀ i x j, xs[i]? = some x → j < P.cellsOf e → W.cell? (a.add (i * P.cellsOf e + j)) = (cells x)[j]? := fun i x j hx hj => by
          obtain ⟨_, _, h3⟩ := World.cells?_some (hxs i x hx).2
          rw [← h3 j hj, add_add]
        obtain ⟨x0, hx0⟩ : ∃ x0, xs[0]? = some x0 := ⟨xs[0], List.getElem?_eq_getElem (by omega)⟩
        have hc0 := cell 0 x0 0 hx0 hs
        obtain ⟨v0, hv0⟩ : ∃ v0, (cells x0)[0]? = some v0 := ⟨(cells x0)[0]'(by rw [hcells]; exact hs), List.getElem?_eq_getElem _⟩
        rw [Nat.zero_mul, Nat.add_zero, hv0] at hc0
        obtain ⟨b, off, spot⟩ := a
        have hspot : spot = none := by simpa [Addr.add] using World.cell?_spot hc0
        subst hspot
        have hc0' : W.cell? ⟨b, off, none⟩ = some v0 := by simpa [Addr.add] using hc0
        unfold World.cell? at hc0'
        cases hb : W.heap[b]? with
        | none => simp [hb] at hc0'
        | some o =>
          cases o with
          | cells blk T fr =>
            refine ⟨b, off, blk, T, fr, rfl, hb, fun k hk => ?_⟩
            have hdm := Nat.div_add_mod k (P.cellsOf e)
            have hmod := Nat.mod_lt k hs
            have hdiv : k / P.cellsOf e < len := (Nat.div_lt_iff_lt_mul hs).2 hk
            obtain ⟨x, hx⟩ : ∃ x, xs[k / P.cellsOf e]? = some x := ⟨xs[k / P.cellsOf e]'(by omega), List.getElem?_eq_getElem (by omega)⟩
            have hck := cell _ x _ hx hmod
            have e1 : k / P.cellsOf e * P.cellsOf e + k % P.cellsOf e = k := by rw [Nat.mul_comm]; exact hdm
            rw [e1, add_lit', cell_of_row W b (off + k) blk T fr hb] at hck
            rw [hck, ← flat_at hcells hx hmod, e1]
          | _ => simp [hb] at hc0'
    · obtain ⟨i, hi, rfl⟩ := List.mem_iff_getElem.1 hx
      exact (hxs i _ (List.getElem?_eq_getElem hi)).1
theorem open_rows {X : Type} {t e : TypeId} {s : Nat} {cells : X → List Value} {Q : X → Prop} (ht : P.underlying t = some (.slice e)) (hC : P.cellsOf e = s) (hs : 0 < s) (hcells : ∀ x, (cells x).length = s)
    (elem : ∀ n cs (y : DataW H × List MemPlace), DataW.trod enc P W 0 (fun _ => true) true n e cs = some y → Light P e y.1 → ∃ x, cs = cells x ∧ Q x)
    {fuel : Nat} {cs : List Value} {y : DataW H × List MemPlace} (h : DataW.trod enc P W 0 (fun _ => true) true fuel t cs = some y) (hw : Light P t y.1) :
    ∃ (A : Option Addr) (n c : Nat) (xs : List X), cs = [.slice A n c] ∧ n ≤ c ∧ c ≤ maxLen ∧ c * P.bytesOf e ≤ reachBytes ∧ Row (Env.of W).heap A (n * s) (xs.flatMap cells) ∧ (∀ x ∈ xs, Q x) ∧ xs.length = n :=
  open_rows_lt ht hC hs hcells (fun n _ => elem n) h hw
theorem Trod_light {t : TypeId} {v : Value} {d : DataW H} {ps : List MemPlace} (h : DataW.Trod enc P W 0 (fun _ => true) true t v d ps) : ∃ fuel, DataW.trod enc P W 0 (fun _ => true) true fuel t v.cells.toList = some (d, ps) := h
end
end Go.Bd
