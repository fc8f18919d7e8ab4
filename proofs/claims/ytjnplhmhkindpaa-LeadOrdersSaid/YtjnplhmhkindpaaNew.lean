/- Operations that make memory, and append onto a slice of one's own, over blocks that are known whole. Conditions: none; nothing here speaks of one program. -/
import Derived.Test.YtjnplhmhkindpaaOps
import Derived.Test.YtjnplhmhkindpaaLoud
import Derived.Great.BuildSlice
import Derived.Maps.AppendAt
namespace Go.Bd
set_option linter.unusedVariables false

/-- An operation that makes one new block, and yields what that block's number gives. -/
def RunNew (P : Program) (f : Fr) (o : Oper) (V : Nat → Value) (obj : Obj) : Prop := ∀ w, (execOp f.ev o).run P w = .ok (.value (V w.heap.size)) (w.alloc obj)

section
variable {P : Program} {n : Nat} {ops : Array Oper} {rest : List Oper} {o : Oper} {N : Fr → World → Prop} {f : Fr} {w w' : World} {v : Value} {F : Env} {Ls : List Blks} {V : Nat → Value} {obj : Obj} {k : Nat} {C : World → Prop} {louds : List Nat}
theorem VR.newG (hm : Mem F w Ls) (hw : Region.wanted o (fyield ops f) = true) (hd : dstOk n o.dst = true) (hp : RunNew P f o V obj)
    (h : ∀ b w', Mem F w' ([(b, obj)] :: Ls) → VR P n ops rest N (f.putO o.dst (V b)) w') : VR P n ops (o :: rest) N f w :=
  VR.valG hw hd (hp w) (h _ _ (hm.alloc obj))
theorem VR.new (hm : Mem F w Ls) (hg : o.guard = none) (hd : dstOk n o.dst = true) (hp : RunNew P f o V obj)
    (h : ∀ b w', Mem F w' ([(b, obj)] :: Ls) → VR P n ops rest N (f.putO o.dst (V b)) w') : VR P n ops (o :: rest) N f w :=
  VR.newG hm (wanted_none hg _) hd hp h
theorem VL.newG (hm : Mem F w Ls) (hl : louds.contains k = true) (hw : Region.wanted o (fyield ops f) = true) (hd : dstOk n o.dst = true) (hp : RunNew P f o V obj)
    (hC : ∀ b w', Mem F w' ([(b, obj)] :: Ls) → C w') (h : ∀ b w', Mem F w' ([(b, obj)] :: Ls) → VL P n ops C louds N rest (k + 1) (f.putO o.dst (V b)) w') : VL P n ops C louds N (o :: rest) k f w :=
  VL.valG hl hw hd (hp w) (hC _ _ (hm.alloc obj)) (h _ _ (hm.alloc obj))
theorem VL.new (hm : Mem F w Ls) (hl : louds.contains k = true) (hg : o.guard = none) (hd : dstOk n o.dst = true) (hp : RunNew P f o V obj)
    (hC : ∀ b w', Mem F w' ([(b, obj)] :: Ls) → C w') (h : ∀ b w', Mem F w' ([(b, obj)] :: Ls) → VL P n ops C louds N rest (k + 1) (f.putO o.dst (V b)) w') : VL P n ops C louds N (o :: rest) k f w :=
  VL.newG hm hl (wanted_none hg _) hd hp hC h
end

section
variable {P : Program} {f : Fr} {dst : Option Tmp} {ty : TypeId} {pos : String} {after : Array Edge} {g : Option (Nat × Bool)}

def oneCell : Value → Bool
  | .agg _ => false
  | _ => true
theorem cells_of_one {v : Value} (h : oneCell v = true) : v.cells = #[v] := by
  cases v <;> first | rfl | cases h

theorem n_buildSlice {t e : TypeId} {len : Nat} {parts : Array (Nat × Operand)} {i : TypeInfo} {z : Value} {vs : List Value} (ht : P.underlying t = some (.slice e)) (hi : P.info? e = some i) (hz : i.zero = some z)
    (hs : vs.all (fun v => Nat.beq v.cells.size i.size) = true) (hlen : vs.length = len) (hsm : Nat.ble (len * i.size) 16777216 = true) (hpos : Nat.beq (len * i.size) 0 = false)
    (hv : parts.toList.map (fun p => (p.1, f.ev p.2)) = (vs.zipIdx 0).map fun x => (x.2, x.1)) :
    RunNew P f ⟨dst, .buildSlice t len parts, ty, pos, after, g⟩ (fun b => .slice (some ⟨b, 0, none⟩) len len) (.cells (vs.flatMap fun v => v.cells.toList).toArray e) := fun w => by
  have hsize : ∀ v ∈ vs, v.cells.size = i.size := fun v hv => Nat.eq_of_beq_eq_true (List.all_eq_true.1 hs v hv)
  have hp : ¬ len * i.size = 0 := fun e => by rw [e] at hpos; cases hpos
  have hspos : 0 < i.size := by
    rcases Nat.eq_zero_or_pos i.size with e | h
    · rw [e] at hp; exact absurd rfl hp
    · exact h
  have h0 : len * i.size ≤ 16777216 := Nat.ble_eq.mp hsm
  have hf := Great.fill_whole hspos vs ((Array.range (len * i.size)).map (z.cells[· % z.cells.size]!)) hsize (by simp [hlen])
  have hr := run_buildSlice (P := P) w t e len (parts.map fun p => (p.1, f.ev p.2)) _ i z ht hi hz (by omega) hp (by rw [Array.toList_map, hv]; exact hf)
  show (execOp f.ev ⟨dst, .buildSlice t len parts, ty, pos, after, g⟩).run P w = _
  simp only [execOp, Sem.run_bind, hr, Result.andThen_ok]
  rfl
theorem flat_one : ∀ (vs : List Value), vs.all oneCell = true → (vs.flatMap fun v => v.cells.toList) = vs
  | [], _ => rfl
  | v :: vs, h => by
    simp only [List.all_cons, Bool.and_eq_true] at h
    rw [List.flatMap_cons, cells_of_one h.1, flat_one vs h.2]
    rfl
/-- The elements of one cell. -/
theorem n_buildSlice1 {t e : TypeId} {len : Nat} {parts : Array (Nat × Operand)} {i : TypeInfo} {z : Value} {vs : List Value} (ht : P.underlying t = some (.slice e)) (hi : P.info? e = some i) (hz : i.zero = some z) (hs1 : i.size = 1)
    (h1 : vs.all oneCell = true) (hlen : vs.length = len) (hsm : Nat.ble len 16777216 = true) (hpos : Nat.beq len 0 = false)
    (hv : parts.toList.map (fun p => (p.1, f.ev p.2)) = (vs.zipIdx 0).map fun x => (x.2, x.1)) :
    RunNew P f ⟨dst, .buildSlice t len parts, ty, pos, after, g⟩ (fun b => .slice (some ⟨b, 0, none⟩) len len) (.cells vs.toArray e) := by
  have := n_buildSlice (P := P) (f := f) (dst := dst) (ty := ty) (pos := pos) (after := after) (g := g) (vs := vs) (parts := parts) ht hi hz (by
    rw [List.all_eq_true] at h1 ⊢
    intro v hv
    rw [cells_of_one (h1 v hv), hs1]
    rfl) hlen (by rw [hs1, Nat.mul_one]; exact hsm) (by rw [hs1, Nat.mul_one]; exact hpos) hv
  rwa [flat_one vs h1] at this

theorem n_makeSlice {t e : TypeId} {l c : Operand} {i : TypeInfo} {z : Value} {s bytes : Nat} {kl kc : IntKind} {a b : Int} (ht : P.underlying t = some (.slice e)) (hi : P.info? e = some i) (hz : i.zero = some z)
    (hsz : i.size = s) (hby : i.bytes = bytes) (hl : f.ev l = .int kl a) (hc : f.ev c = .int kc b) (h0 : 0 ≤ a ∧ a ≤ b) (hb : (bytes : Int) * b ≤ 281474976710656 ∧ b ≤ 9223372036854775807) :
    RunNew P f ⟨dst, .makeSlice t l c, ty, pos, after, g⟩ (fun k => .slice (some ⟨k, 0, none⟩) a.toNat b.toNat) (.cells (madeCells z.cells (b.toNat * s)) e) := fun w => by
  subst hsz hby
  have hr := run_make (P := P) w t e i z ht hi hz kl kc a b h0.1 h0.2 hb.1 hb.2
  simp only [execOp, hl, hc, Sem.run_bind, hr, Result.andThen_ok]
  rfl
theorem n_box {e : TypeId} {x : Operand} {v : Value} {cs : Array Value} (hx : f.ev x = v) (hc : v.cells = cs) :
    RunNew P f ⟨dst, .box e x, ty, pos, after, g⟩ (fun k => .pointer (some ⟨k, 0, none⟩)) (.cells cs e) := fun w => by
  subst hc
  simp [execOp, hx, Instr.box, newVar, newRow]
theorem n_boxG {e : TypeId} {x : Operand} {cs : Array Value} (hx : f.ev x = .agg cs) :
    RunNew P f ⟨dst, .box e x, ty, pos, after, g⟩ (fun k => .pointer (some ⟨k, 0, none⟩)) (.cells cs e) := n_box hx rfl
theorem n_box1 {e : TypeId} {x : Operand} {v : Value} (hx : f.ev x = v) (h1 : oneCell v = true) :
    RunNew P f ⟨dst, .box e x, ty, pos, after, g⟩ (fun k => .pointer (some ⟨k, 0, none⟩)) (.cells #[v] e) := n_box hx (cells_of_one h1)
theorem n_alloc {e : TypeId} {z : Value} {cs : Array Value} (hz : ∀ w, (zeroValue e).run P w = .ok z w) (hc : z.cells = cs) :
    RunNew P f ⟨dst, .alloc e, ty, pos, after, g⟩ (fun k => .pointer (some ⟨k, 0, none⟩)) (.cells cs e) := fun w => by
  subst hc
  simp [execOp, Instr.alloc, hz, newVar, newRow]
theorem n_allocG {e : TypeId} {cs : Array Value} (hz : ∀ w, (zeroValue e).run P w = .ok (.agg cs) w) :
    RunNew P f ⟨dst, .alloc e, ty, pos, after, g⟩ (fun k => .pointer (some ⟨k, 0, none⟩)) (.cells cs e) := n_alloc hz rfl
theorem n_alloc1 {e : TypeId} {z : Value} (hz : ∀ w, (zeroValue e).run P w = .ok z w) (h1 : oneCell z = true) :
    RunNew P f ⟨dst, .alloc e, ty, pos, after, g⟩ (fun k => .pointer (some ⟨k, 0, none⟩)) (.cells #[z] e) := n_alloc hz (cells_of_one h1)

/-! ### A slice of one's own -/
/-- The slice value '.slice A n c' holds the cells xs (n elements of s cells, of type e), and its array is one's own: the blocks L. -/
def OwnS (e : TypeId) (s : Nat) (A : Option Addr) (n c : Nat) (xs : List Value) (L : Blks) : Prop :=
  xs.length = n * s ∧ ((A = none ∧ n = 0 ∧ c = 0 ∧ L = []) ∨ ∃ g cur, A = some ⟨g, 0, none⟩ ∧ L = [(g, .cells cur e (0, 0))] ∧ n ≤ c ∧ c ≤ maxLen ∧ cur.size = c * s ∧ cur.toList.take (n * s) = xs)
theorem OwnS.nil (e : TypeId) (s : Nat) : OwnS e s none 0 0 [] [] := ⟨by simp, .inl ⟨rfl, rfl, rfl, rfl⟩⟩
theorem OwnS.made {e : TypeId} {s g c : Nat} {cur : Array Value} (hc : c ≤ maxLen) (hs : cur.size = c * s) : OwnS e s (some ⟨g, 0, none⟩) 0 c [] [(g, .cells cur e (0, 0))] :=
  ⟨by simp, .inr ⟨g, cur, rfl, rfl, Nat.zero_le _, hc, hs, by simp⟩⟩
/-- All that a block holds. -/
theorem OwnS.whole {e : TypeId} {s g n : Nat} {cur : Array Value} (hc : n ≤ maxLen) (hs : cur.size = n * s) : OwnS e s (some ⟨g, 0, none⟩) n n cur.toList [(g, .cells cur e (0, 0))] :=
  ⟨by simpa using hs, .inr ⟨g, cur, rfl, rfl, Nat.le_refl _, hc, hs, by rw [← hs, ← Array.length_toList, List.take_length]⟩⟩
theorem OwnS.row {e : TypeId} {s : Nat} {A : Option Addr} {n c : Nat} {xs : List Value} {L : Blks} (h : OwnS e s A n c xs L) {H : Nat → Option Obj} (hH : ∀ p ∈ L, H p.1 = some p.2) : Row H A (n * s) xs := by
  refine ⟨h.1, ?_⟩
  rcases h.2 with ⟨_, rfl, _, _⟩ | ⟨g, cur, rfl, rfl, hn, _, hs, ht⟩
  · exact .inl (by simp)
  · refine .inr ⟨g, 0, cur, e, (0, 0), rfl, hH _ (.head _), fun i hi => ?_⟩
    rw [← ht, List.getElem?_take, if_pos hi]
    simp
theorem OwnS.row1 {e : TypeId} {A : Option Addr} {n c : Nat} {xs : List Value} {L : Blks} (h : OwnS e 1 A n c xs L) {H : Nat → Option Obj} (hH : ∀ p ∈ L, H p.1 = some p.2) : Row H A n xs := by
  have := h.row hH
  rwa [Nat.mul_one] at this
theorem OwnS.le {e : TypeId} {s : Nat} {A : Option Addr} {n c : Nat} {xs : List Value} {L : Blks} (h : OwnS e s A n c xs L) : n ≤ c ∧ c ≤ maxLen := by
  rcases h.2 with ⟨_, rfl, rfl, _⟩ | ⟨g, cur, rfl, rfl, hn, hc, _⟩
  · exact ⟨Nat.le_refl _, Nat.zero_le _⟩
  · exact ⟨hn, hc⟩

theorem OwnS.owns {F : Env} {w : World} {Ls : List Blks} {e : TypeId} {s : Nat} {A : Option Addr} {n c : Nat} {xs : List Value} {L : Blks} (h : OwnS e s A n c xs L) (hm : Mem F w (L :: Ls)) : w.ownsRow 0 e s (.slice A n c) n xs := by
  refine ⟨h.1, ?_⟩
  rcases h.2 with ⟨rfl, rfl, rfl, _⟩ | ⟨g, cur, rfl, rfl, hn, hc, hs, ht⟩
  · exact .inl ⟨rfl, rfl⟩
  · exact .inr ⟨g, c, cur, rfl, Nat.zero_le _, hm.at_ 0 0 rfl, hn, hc, hs, ht⟩

theorem own_of {F : Env} {w w' : World} {Ls : List Blks} {e : TypeId} {s : Nat} {A : Option Addr} {n c : Nat} {xs : List Value} {L : Blks} {v' : Value} {n' : Nat} {xs' : List Value}
    (h : OwnS e s A n c xs L) (hm : Mem F w (L :: Ls)) (ho : w'.ownsRow 0 e s v' n' xs') (hg : w.grownBy w' (Value.slice A n c).ownBlock)
    (hat : v'.ownBlock = (Value.slice A n c).ownBlock ∨ v'.ownBlock = some w.heap.size) : ∃ A' c' L', v' = .slice A' n' c' ∧ OwnS e s A' n' c' xs' L' ∧ Mem F w' (L' :: Ls) := by
  -- what was there beside L is there still
  have hne : ∀ p ∈ Ls.flatten, some p.1 ≠ (Value.slice A n c).ownBlock := by
    intro p hp he
    rcases h.2 with ⟨rfl, _, _, _⟩ | ⟨g, cur, rfl, rfl, _⟩
    · simp [Value.ownBlock] at he
    · have e1 : p.1 = g := by simpa [Value.ownBlock] using he
      have hn := hm.nodup
      simp only [List.flatten_cons, List.cons_append, List.nil_append, List.map_cons, List.nodup_cons] at hn
      exact hn.1 (e1 ▸ List.mem_map.2 ⟨p, hp, rfl⟩)
  have hneF : ∀ b o, F.heap b = some o → some b ≠ (Value.slice A n c).ownBlock := by
    intro b o hb he
    rcases h.2 with ⟨rfl, _, _, _⟩ | ⟨g, cur, rfl, rfl, _⟩
    · simp [Value.ownBlock] at he
    · have e1 : b = g := by simpa [Value.ownBlock] using he
      have := hm.sep (g, .cells cur e (0, 0)) (by simp)
      rw [← e1, hb] at this
      cases this
  have hlt : ∀ b o, w.heap[b]? = some o → b < w.heap.size := fun b o hb => (Array.getElem?_eq_some_iff.1 hb).1
  have hM : Mem F w' Ls := by
    have h0 := hm.pop
    refine ⟨hg.os.trans h0.os, hg.tape.trans h0.tape, hg.output.trans h0.output, fun b o hb => ?_, fun p hp => ?_, h0.sep, h0.nodup⟩
    · have h1 := h0.fix b o hb
      rw [hg.block b (hlt b o h1) (hneF b o hb)]
      exact h1
    · have h1 := h0.own p hp
      rw [hg.block p.1 (hlt _ _ h1) (hne p hp)]
      exact h1
  rcases ho.2 with ⟨rfl, rfl⟩ | ⟨g', cap', cur', rfl, _, hh, h1, h2, h3, h4⟩
  · exact ⟨none, 0, [], rfl, ⟨ho.1, .inl ⟨rfl, rfl, rfl, rfl⟩⟩, hM.nil_⟩
  · refine ⟨some ⟨g', 0, none⟩, cap', [(g', .cells cur' e (0, 0))], rfl, ⟨ho.1, .inr ⟨g', cur', rfl, rfl, h1, h2, h3, h4⟩⟩, ?_⟩
    have hfree : F.heap g' = none ∧ g' ∉ Ls.flatten.map Prod.fst := by
      rcases hat with e1 | e1
      · have e2 : some g' = (Value.slice A n c).ownBlock := by rw [← e1]; rfl
        refine ⟨?_, fun hmem => ?_⟩
        · cases hx : F.heap g' with
          | none => rfl
          | some o => exact (hneF g' o hx e2).elim
        · obtain ⟨p, hp, e3⟩ := List.mem_map.1 hmem
          exact hne p hp (by rw [e3]; exact e2)
      · have e2 : g' = w.heap.size := by simpa [Value.ownBlock] using e1
        refine ⟨?_, fun hmem => ?_⟩
        · cases hx : F.heap g' with
          | none => rfl
          | some o =>
            have := hlt g' o (hm.fix g' o hx)
            omega
        · obtain ⟨p, hp, e3⟩ := List.mem_map.1 hmem
          have := hlt _ _ (hm.pop.own p hp)
          omega
    refine ⟨hM.os, hM.tape, hM.output, hM.fix, fun p hp => ?_, fun p hp => ?_, ?_⟩
    · simp only [List.flatten_cons, List.mem_append, List.mem_singleton] at hp
      rcases hp with rfl | hp
      · exact hh
      · exact hM.own p hp
    · simp only [List.flatten_cons, List.mem_append, List.mem_singleton] at hp
      rcases hp with rfl | hp
      · exact hfree.1
      · exact hM.sep p hp
    · simp only [List.flatten_cons, List.map_cons, List.cons_append, List.nil_append, List.nodup_cons]
      exact ⟨hfree.2, hM.nodup⟩

theorem addr_add_add (b off j : Nat) : (⟨b, off, none⟩ : Addr).add j = ⟨b, off + j, none⟩ := add_lit' b off j

theorem Row.cells {w : World} {A : Addr} {m : Nat} {cs : List Value} (h : Row (fun b => w.heap[b]?) (some A) m cs) : ∀ j u, cs[j]? = some u → w.cell? (A.add j) = some u := by
  intro j u hu
  have hj : j < m := by rw [← h.1]; exact (List.getElem?_eq_some_iff.1 hu).1
  obtain ⟨b, off, blk, T, fr, e, hb, hc⟩ := h.get (by omega)
  cases e
  rw [add_lit', cell_of_row w b (off + j) blk T fr hb, hc j hj]
  exact hu

theorem run_append_of_nil {w : World} {t ty e : TypeId} {i : TypeInfo} {s : Nat} (ht : P.underlying t = some (.slice e)) (hi : P.info? e = some i)
    {v : Value} {n : Nat} {xs : List Value} (hown : w.ownsRow 0 e s v n xs) (c : Nat) : (Builtin.append_ #[t, t] ty #[v, .slice none 0 c]).run P w = .ok v w := by
  rcases hown.2 with ⟨rfl, rfl⟩ | ⟨g, cap, cur, rfl, _, _, hnc, _⟩
  · simp [Builtin.append_, run_underlying ht, sizeOf, typeInfo, hi, Builtin.lenOf, Builtin.firstCells]
  · simp [Builtin.append_, run_underlying ht, sizeOf, typeInfo, hi, Builtin.lenOf, Builtin.firstCells, hnc, storeCells]

/-- append onto a slice of one's own: the source a row that can be read. -/
theorem run_append {F : Env} {w : World} {Ls : List Blks} {t ty' e : TypeId} {i : TypeInfo} {z : Value} {s bytes : Nat} (ht : P.underlying t = some (.slice e)) (hi : P.info? e = some i) (hz : i.zero = some z)
    (hsz : i.size = s) (hby : i.bytes = bytes) (hzs : z.cells.size = s) (hs : 0 < s) {A : Option Addr} {n c : Nat} {xs : List Value} {L : Blks} (ho : OwnS e s A n c xs L) (hm : Mem F w (L :: Ls))
    {B : Option Addr} {m d : Nat} {news : List Value} (hr : Row (fun b => w.heap[b]?) B (m * s) news) (h1 : ∀ u ∈ news, u.oneCell' = true) (h63 : n + m ≤ maxLen) (hbytes : (n + m) * bytes ≤ 140737488355328) :
    ∃ A' c' w' L', (Builtin.append_ #[t, t] ty' #[.slice A n c, .slice B m d]).run P w = .ok (.slice A' (n + m) c') w' ∧ OwnS e s A' (n + m) c' (xs ++ news) L' ∧ Mem F w' (L' :: Ls) := by
  have how := ho.owns hm
  cases B with
  | none =>
    have hm0 : m = 0 := by
      rcases Nat.eq_zero_or_pos m with h0 | h0
      · exact h0
      · obtain ⟨b, off, blk, T, fr, e, _⟩ := hr.get (Nat.mul_pos h0 hs)
        cases e
    subst hm0
    have hn : news = [] := List.eq_nil_of_length_eq_zero (by simpa using hr.1)
    subst hn
    exact ⟨A, c, w, L, run_append_of_nil ht hi how d, by simpa using ho, hm⟩
  | some ad =>
    obtain ⟨v', w', hrun, h2, h3, _, h5⟩ := run_append_own_at (P := P) w 0 t ty' e i z s bytes ht hi hz hsz hby hzs hs (.slice A n c) n xs how ad m d news hr.1 hr.cells h1 h63 hbytes (Nat.zero_le _)
    obtain ⟨A', c', L', rfl, h6, h7⟩ := own_of ho hm h2 h3 h5
    exact ⟨A', c', w', L', hrun, h6, h7⟩
end

section
variable {P : Program} {n : Nat} {ops : Array Oper} {rest : List Oper} {N : Fr → World → Prop} {f : Fr} {w : World} {F : Env} {Ls : List Blks} {k : Nat} {C : World → Prop} {louds : List Nat}
  {dst : Option Tmp} {ty : TypeId} {pos : String} {after : Array Edge} {g : Option (Nat × Bool)}

theorem VR.append {t e : TypeId} {i : TypeInfo} {z : Value} {s bytes : Nat} {x y : Operand} (ht : P.underlying t = some (.slice e)) (hi : P.info? e = some i) (hz : i.zero = some z)
    (hsz : i.size = s) (hby : i.bytes = bytes) (hzs : z.cells.size = s) (hs : Nat.blt 0 s = true) {A : Option Addr} {m c : Nat} {xs : List Value} {L : Blks} {B : Option Addr} {q d : Nat} {news : List Value}
    (hg : g = none) (hd : dstOk n dst = true) (hx : f.ev x = .slice A m c) (hy : f.ev y = .slice B q d)
    (hm : Mem F w (L :: Ls)) (ho : OwnS e s A m c xs L) (hr : Row (fun b => w.heap[b]?) B (q * s) news) (h1 : ∀ u ∈ news, u.oneCell' = true) {len : Nat} (hlen : m + q = len) (h63 : len ≤ maxLen ∧ len * bytes ≤ 140737488355328)
    (h : ∀ A' c' w' L', OwnS e s A' len c' (xs ++ news) L' → Mem F w' (L' :: Ls) → VR P n ops rest N (f.putO dst (.slice A' len c')) w') :
    VR P n ops (⟨dst, .call { callee := .builtin .append, args := #[x, y], argTypes := #[t, t] }, ty, pos, after, g⟩ :: rest) N f w := by
  subst hlen
  obtain ⟨A', c', w', L', hrun, h6, h7⟩ := run_append (P := P) (ty' := ty) ht hi hz hsz hby hzs (Nat.blt_eq.mp hs) ho hm (d := d) hr h1 h63.1 h63.2
  refine VR.val hg hd ?_ (h A' c' w' L' h6 h7)
  rw [BigFrame.execOp_builtin]
  simp [BigFrame.builtin_append, hx, hy, hrun]
end

/-! ### Slices cut anew -/
section
variable {P : Program} {f : Fr} {dst : Option Tmp} {ty : TypeId} {pos : String} {after : Array Edge} {g : Option (Nat × Bool)}
/-- 'x[:h]' -/
theorem p_sliceH {t e : TypeId} {s : Nat} {x hi : Operand} {A : Option Addr} {n c : Nat} {k : IntKind} {h : Int} (ht : P.underlying t = some (.slice e)) (hs : ∀ w, (sizeOf e).run P w = .ok s w)
    (hx : f.ev x = .slice A n c) (hh : f.ev hi = .int k h) (h0 : 0 ≤ h ∧ h ≤ c) :
    Pure P f ⟨dst, .slice t x none (some hi) none, ty, pos, after, g⟩ (.slice A h.toNat c) := fun w => by
  have hz : A.map (·.add 0) = A := by cases A <;> simp [Addr.add]
  simp [execOp, hx, hh, Instr.sliceAt, Instr.slice, run_underlying ht, Instr.sliceBounds, Instr.sliceBound, asIntOf, h0, hs, hz]
/-- 'x[l:]' -/
theorem p_sliceL {t e : TypeId} {s : Nat} {x lo : Operand} {A : Option Addr} {n c : Nat} {k : IntKind} {l : Int} (ht : P.underlying t = some (.slice e)) (hs : ∀ w, (sizeOf e).run P w = .ok s w)
    (hx : f.ev x = .slice A n c) (hl : f.ev lo = .int k l) (h0 : 0 ≤ l ∧ l ≤ n) :
    Pure P f ⟨dst, .slice t x (some lo) none none, ty, pos, after, g⟩ (.slice (if c = l.toNat then A else A.map (·.add (l.toNat * s))) (n - l.toNat) (c - l.toNat)) := fun w => by
  simp [execOp, hx, hl, Instr.sliceAt, Instr.slice, run_underlying ht, Instr.sliceBounds, Instr.sliceBound, asIntOf, h0, hs]
theorem p_extract {x : Operand} {vs : Array Value} {i : Nat} {v : Value} (hx : f.ev x = .tuple vs) (hv : vs[i]? = some v) : Pure P f ⟨dst, .extract x i, ty, pos, after, g⟩ v := fun w => by
  simp [execOp, hx, Instr.extract, hv]
theorem p_max {t t' : TypeId} {x y : Operand} {k : IntKind} {a b : Int} (hx : f.ev x = .int k a) (hy : f.ev y = .int k b) :
    Pure P f ⟨dst, .call { callee := .builtin .max, args := #[x, y], argTypes := #[t, t'] }, ty, pos, after, g⟩ (.int k (max a b)) := fun w => by
  have e : (if b > a then b else a) = max a b := by omega
  rw [BigFrame.execOp_builtin]
  simp [BigFrame.builtin_max, Builtin.max_, Builtin.max2, hx, hy, e]
theorem p_min {t t' : TypeId} {x y : Operand} {k : IntKind} {a b : Int} (hx : f.ev x = .int k a) (hy : f.ev y = .int k b) :
    Pure P f ⟨dst, .call { callee := .builtin .min, args := #[x, y], argTypes := #[t, t'] }, ty, pos, after, g⟩ (.int k (min a b)) := fun w => by
  have e : (if b < a then b else a) = min a b := by omega
  rw [BigFrame.execOp_builtin]
  simp [BigFrame.builtin_min, Builtin.min_, Builtin.min2, hx, hy, e]
end

end Go.Bd
