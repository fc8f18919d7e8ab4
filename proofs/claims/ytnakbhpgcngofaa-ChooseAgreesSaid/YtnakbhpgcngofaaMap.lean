/- Maps: made, looked up, written, removed from, gone through. Conditions: none; nothing here speaks of one program. -/
import Derived.Test.YtnakbhpgcngofaaQue
import Derived.MapKept
import Derived.Maps.RangeRun
import Derived.Lib.OthersKept
import Derived.Laws.RangeAny
namespace Go.Bd
open Go.MapKept hiding run_getObj_map
open Go.ChangeMaps (setBlock)
set_option linter.unusedVariables false

/-- A map's entries: keys of one kind, no key twice, each laid at a time of its own. -/
structure Ents (d : TypeDesc) (l : List MapEntry) (clock : Nat) : Prop where
  keys : ∀ x ∈ l, IsKey d x.key
  apart : l.Pairwise fun x y => x.key ≠ y.key
  born : ∀ x ∈ l, x.born < clock
  nodup : (l.map (·.born)).Nodup
theorem Ents.nil (d : TypeDesc) (clock : Nat) : Ents d [] clock := ⟨by simp, by simp, by simp, by simp⟩
theorem Ents.push {d : TypeDesc} {l : List MapEntry} {clock : Nat} (h : Ents d l clock) {k v : Value} (hk : IsKey d k) (hn : ∀ x ∈ l, x.key ≠ k) : Ents d (l ++ [(⟨k, v, clock⟩ : MapEntry)]) (clock + 1) := by
  refine ⟨fun x hx => ?_, ?_, fun x hx => ?_, ?_⟩
  · rcases List.mem_append.1 hx with hx | hx
    · exact h.keys x hx
    · rw [List.mem_singleton.1 hx]; exact hk
  · refine List.pairwise_append.2 ⟨h.apart, by simp, fun x hx y hy => ?_⟩
    rw [List.mem_singleton.1 hy]
    exact hn x hx
  · rcases List.mem_append.1 hx with hx | hx
    · exact Nat.lt_succ_of_lt (h.born x hx)
    · rw [List.mem_singleton.1 hx]; exact Nat.lt_succ_self _
  · rw [List.map_append]
    refine List.nodup_append.2 ⟨h.nodup, by simp, fun a ha b hb => ?_⟩
    obtain ⟨x, hx, rfl⟩ := List.mem_map.1 ha
    simp only [List.map_cons, List.map_nil, List.mem_singleton] at hb
    rw [hb]
    exact Nat.ne_of_lt (h.born x hx)
theorem set_map {α β : Type} {f : α → β} {l : List α} {i : Nat} {e : α} {y : β} (hi : l[i]? = some e) (hy : y = f e) : (l.map f).set i y = l.map f := by
  apply List.ext_getElem?
  intro j
  rw [List.getElem?_set]
  split
  · rename_i h
    subst h
    have hlt := (List.getElem?_eq_some_iff.1 hi).1
    rw [if_pos (by rw [List.length_map]; exact hlt), List.getElem?_map, hi, hy]
    rfl
  · rfl
theorem Ents.set {d : TypeDesc} {l : List MapEntry} {clock : Nat} (h : Ents d l clock) {i : Nat} {e : MapEntry} (hi : l[i]? = some e) (v : Value) : Ents d (l.set i ⟨e.key, v, e.born⟩) clock := by
  have hk : (l.set i ⟨e.key, v, e.born⟩).map (·.key) = l.map (·.key) := by
    rw [List.map_set]
    exact set_map hi rfl
  have hb : (l.set i ⟨e.key, v, e.born⟩).map (·.born) = l.map (·.born) := by
    rw [List.map_set]
    exact set_map hi rfl
  have hm := List.mem_of_getElem? hi
  refine ⟨fun x hx => ?_, ?_, fun x hx => ?_, by rw [hb]; exact h.nodup⟩
  · rcases List.mem_or_eq_of_mem_set hx with hx | rfl
    · exact h.keys x hx
    · exact h.keys e hm
  · have h1 : (l.map (·.key)).Pairwise (· ≠ ·) := List.pairwise_map.2 h.apart
    rw [← hk] at h1
    exact List.pairwise_map.1 h1
  · rcases List.mem_or_eq_of_mem_set hx with hx | rfl
    · exact h.born x hx
    · exact h.born e hm
theorem Ents.sub {d : TypeDesc} {l l' : List MapEntry} {clock : Nat} (h : Ents d l clock) (hs : l'.Sublist l) : Ents d l' clock :=
  ⟨fun x hx => h.keys x (hs.subset hx), h.apart.sublist hs, fun x hx => h.born x (hs.subset hx), h.nodup.sublist (hs.map _)⟩
theorem Ents.at_eq {d : TypeDesc} {l : List MapEntry} {clock : Nat} (h : Ents d l clock) {i j : Nat} {x y : MapEntry} (hx : l[i]? = some x) (hy : l[j]? = some y) (e : x.key = y.key) : i = j := by
  have hp := List.pairwise_iff_getElem.1 h.apart
  obtain ⟨hi, rfl⟩ := List.getElem?_eq_some_iff.1 hx
  obtain ⟨hj, rfl⟩ := List.getElem?_eq_some_iff.1 hy
  rcases Nat.lt_trichotomy i j with hlt | rfl | hlt
  · exact absurd e (hp i j hi hj hlt)
  · rfl
  · exact absurd e.symm (hp j i hj hi hlt)

section
variable {P : Program} {w : World} {mt kt et ty : TypeId} {d : TypeDesc} {b clock : Nat} {l : List MapEntry} {k v z : Value} {i : Nat} {e : MapEntry}

theorem find_hit (h : Ents d l clock) (hi : l[i]? = some e) : Instr.findNow d e.key l 0 = some (some (i, e.val)) := by
  have hm := List.mem_of_getElem? hi
  rcases findNow_spec (h.keys e hm) l 0 h.keys with ⟨_, h2⟩ | ⟨j, e', h1, h2, h3⟩
  · exact absurd rfl (h2 e hm)
  · have hij := h.at_eq h2 hi h3
    subst hij
    rw [hi] at h2
    obtain rfl := Option.some.inj h2
    simpa using h1
theorem find_miss (hk : IsKey d k) (hks : ∀ x ∈ l, IsKey d x.key) (hn : ∀ x ∈ l, x.key ≠ k) : Instr.findNow d k l 0 = some none := by
  rcases findNow_spec hk l 0 hks with ⟨h1, _⟩ | ⟨j, e', h1, h2, h3⟩
  · exact h1
  · exact absurd h3 (hn e' (List.mem_of_getElem? h2))

theorem run_lookup_hit (hmt : P.underlying mt = some (.map kt et)) (hkt : P.underlying kt = some d) (hb : w.heap[b]? = some (.map l.toArray clock)) (h : Ents d l clock) (hi : l[i]? = some e) (ok : Bool) :
    (Instr.lookup mt (.map (some b)) e.key ok).run P w = .ok (if ok then .tuple #[e.val, .bool true] else e.val) w := by
  have hk := h.keys e (List.mem_of_getElem? hi)
  simp only [Instr.lookup, Sem.run_bind, run_underlying hmt, Result.andThen_ok, MapKept.run_getObj_map hb, Sem.run_pure, run_checkKey hkt hk, run_findKey hkt (find_hit h hi)]
theorem run_lookup_miss (hmt : P.underlying mt = some (.map kt et)) (hkt : P.underlying kt = some d) (hb : w.heap[b]? = some (.map l.toArray clock)) (hk : IsKey d k) (h : Ents d l clock) (hn : ∀ x ∈ l, x.key ≠ k)
    (hz : ∀ w, (zeroValue et).run P w = .ok z w) (ok : Bool) : (Instr.lookup mt (.map (some b)) k ok).run P w = .ok (if ok then .tuple #[z, .bool false] else z) w := by
  simp only [Instr.lookup, Sem.run_bind, run_underlying hmt, Result.andThen_ok, MapKept.run_getObj_map hb, Sem.run_pure, run_checkKey hkt hk, run_findKey hkt (find_miss hk h.keys hn), hz]
theorem run_lookup_nil (hmt : P.underlying mt = some (.map kt et)) (hkt : P.underlying kt = some d) (hk : IsKey d k) (hz : ∀ w, (zeroValue et).run P w = .ok z w) (ok : Bool) :
    (Instr.lookup mt (.map none) k ok).run P w = .ok (if ok then .tuple #[z, .bool false] else z) w := by
  have h0 : Instr.findNow d k [] 0 = some none := rfl
  simp only [Instr.lookup, Sem.run_bind, run_underlying hmt, Result.andThen_ok, Sem.run_pure, run_checkKey hkt hk, run_findKey hkt h0, hz]

theorem Upd.block {o o' : Obj} (hb : w.heap[b]? = some o) : Upd w (setBlock w b o') b o' :=
  ⟨rfl, rfl, rfl, (heap_set hb).1, fun j hj => (heap_set hb).2 j hj⟩
theorem run_update_hit (hmt : P.underlying mt = some (.map kt et)) (hkt : P.underlying kt = some d) (hb : w.heap[b]? = some (.map l.toArray clock)) (h : Ents d l clock) (hi : l[i]? = some e) :
    (Instr.mapUpdate mt (.map (some b)) e.key v).run P w = .ok () (setBlock w b (.map (l.set i ⟨e.key, v, e.born⟩).toArray clock)) := by
  have hk := h.keys e (List.mem_of_getElem? hi)
  have hj : l.toArray[i]? = some e := by simpa using hi
  have hmod : l.toArray.modify i (fun e' => { e' with key := e.key, val := v }) = (l.set i ⟨e.key, v, e.born⟩).toArray := by
    apply Array.ext'
    rw [Array.toList_modify, Go.ChangeMaps.modify_eq_set _ _ _ _ hi]
  simp only [Instr.mapUpdate, Sem.run_bind, run_underlying hmt, Result.andThen_ok, MapKept.run_getObj_map hb, run_checkKey hkt hk, run_findKey hkt (find_hit h hi), hj, Option.map_some, Option.getD_some, run_keyThatStays hk, run_setObj_map _ hb, hmod, setBlock]
theorem run_update_miss (hmt : P.underlying mt = some (.map kt et)) (hkt : P.underlying kt = some d) (hb : w.heap[b]? = some (.map l.toArray clock)) (hk : IsKey d k) (h : Ents d l clock) (hn : ∀ x ∈ l, x.key ≠ k) :
    (Instr.mapUpdate mt (.map (some b)) k v).run P w = .ok () (setBlock w b (.map (l ++ [(⟨k, v, clock⟩ : MapEntry)]).toArray (clock + 1))) := by
  have hp : l.toArray.push (⟨k, v, clock⟩ : MapEntry) = (l ++ [(⟨k, v, clock⟩ : MapEntry)]).toArray := by simp
  simp only [Instr.mapUpdate, Sem.run_bind, run_underlying hmt, Result.andThen_ok, MapKept.run_getObj_map hb, run_checkKey hkt hk, run_findKey hkt (find_miss hk h.keys hn), run_setObj_map _ hb, hp, setBlock]
theorem run_delete_hit (hmt : P.underlying mt = some (.map kt et)) (hkt : P.underlying kt = some d) (hb : w.heap[b]? = some (.map l.toArray clock)) (h : Ents d l clock) (hi : l[i]? = some e) :
    (Builtin.delete_ #[mt, kt] ty #[.map (some b), e.key]).run P w = .ok (.tuple #[]) (setBlock w b (.map (l.eraseIdx i).toArray clock)) := by
  have hk := h.keys e (List.mem_of_getElem? hi)
  have hlt : i < l.toArray.size := by simpa using (List.getElem?_eq_some_iff.1 hi).1
  have he : l.toArray.eraseIdxIfInBounds i = (l.eraseIdx i).toArray := by
    unfold Array.eraseIdxIfInBounds
    rw [dif_pos hlt]
    simp
  simp [Builtin.delete_, run_underlying hmt, MapKept.run_getObj_map hb, run_checkKey hkt hk, run_findKey hkt (find_hit h hi), run_setObj_map _ hb, Result.andThen, setBlock]
theorem run_delete_miss (hmt : P.underlying mt = some (.map kt et)) (hkt : P.underlying kt = some d) (hb : w.heap[b]? = some (.map l.toArray clock)) (hk : IsKey d k) (h : Ents d l clock) (hn : ∀ x ∈ l, x.key ≠ k) :
    (Builtin.delete_ #[mt, kt] ty #[.map (some b), k]).run P w = .ok (.tuple #[]) (setBlock w b (.map l.toArray clock)) := by
  simp [Builtin.delete_, run_underlying hmt, MapKept.run_getObj_map hb, run_checkKey hkt hk, run_findKey hkt (find_miss hk h.keys hn), run_setObj_map _ hb, Result.andThen, setBlock]
theorem run_range_map (hmt : P.underlying mt = some (.map kt et)) (hb : w.heap[b]? = some (.map l.toArray clock)) :
    (Instr.range mt (.map (some b))).run P w = .ok (.pointer (some ⟨w.heap.size, 0, none⟩)) (w.alloc (.mapIter (some b) clock #[] clock)) := by
  simp [Instr.range, run_underlying hmt, MapKept.run_getObj_map hb, Result.andThen]
end

/-! ### At the operations -/
section
variable {P : Program} {n : Nat} {ops : Array Oper} {rest : List Oper} {N : Fr → World → Prop} {f : Fr} {w : World} {F : Env} {Ls : List Blks} {mt kt et : TypeId} {d : TypeDesc} {b clock : Nat} {l : List MapEntry}
  {dst : Option Tmp} {ty : TypeId} {pos : String} {after : Array Edge} {g : Option (Nat × Bool)}

theorem n_makeMap : RunNew P f ⟨dst, .makeMap mt none, ty, pos, after, g⟩ (fun b => .map (some b)) (.map #[] 0) := fun w => by
  simp [execOp, Instr.makeMap]
theorem r_lookup {x ix : Operand} {i : Nat} {e : MapEntry} {u : Value} (hmt : P.underlying mt = some (.map kt et)) (hkt : P.underlying kt = some d) (hx : f.ev x = .map (some b)) (hix : f.ev ix = u)
    (hb : w.heap[b]? = some (.map l.toArray clock)) (h : Ents d l clock) (hi : l[i]? = some e) (he : e.key = u) :
    (execOp f.ev ⟨dst, .lookup mt x ix false, ty, pos, after, g⟩).run P w = .ok (.value e.val) w := by
  subst he
  simp [execOp, hx, hix, run_lookup_hit hmt hkt hb h hi]
theorem r_lookupOk {x ix : Operand} {i : Nat} {e : MapEntry} {u : Value} (hmt : P.underlying mt = some (.map kt et)) (hkt : P.underlying kt = some d) (hx : f.ev x = .map (some b)) (hix : f.ev ix = u)
    (hb : w.heap[b]? = some (.map l.toArray clock)) (h : Ents d l clock) (hi : l[i]? = some e) (he : e.key = u) :
    (execOp f.ev ⟨dst, .lookup mt x ix true, ty, pos, after, g⟩).run P w = .ok (.value (.tuple #[e.val, .bool true])) w := by
  subst he
  simp [execOp, hx, hix, run_lookup_hit hmt hkt hb h hi]
theorem r_lookupNo {x ix : Operand} {u z : Value} (hmt : P.underlying mt = some (.map kt et)) (hkt : P.underlying kt = some d) (hx : f.ev x = .map (some b)) (hix : f.ev ix = u) (hz : ∀ w, (zeroValue et).run P w = .ok z w)
    (hb : w.heap[b]? = some (.map l.toArray clock)) (h : Ents d l clock) (hk : IsKey d u) (hn : ∀ x ∈ l, x.key ≠ u) :
    (execOp f.ev ⟨dst, .lookup mt x ix false, ty, pos, after, g⟩).run P w = .ok (.value z) w := by
  simp [execOp, hx, hix, run_lookup_miss hmt hkt hb hk h hn hz]
theorem r_lookupOkNo {x ix : Operand} {u z : Value} (hmt : P.underlying mt = some (.map kt et)) (hkt : P.underlying kt = some d) (hx : f.ev x = .map (some b)) (hix : f.ev ix = u) (hz : ∀ w, (zeroValue et).run P w = .ok z w)
    (hb : w.heap[b]? = some (.map l.toArray clock)) (h : Ents d l clock) (hk : IsKey d u) (hn : ∀ x ∈ l, x.key ≠ u) :
    (execOp f.ev ⟨dst, .lookup mt x ix true, ty, pos, after, g⟩).run P w = .ok (.value (.tuple #[z, .bool false])) w := by
  simp [execOp, hx, hix, run_lookup_miss hmt hkt hb hk h hn hz]
theorem r_lenMap {x : Operand} (hmt : P.underlying mt = some (.map kt et)) (hx : f.ev x = .map (some b)) (hb : w.heap[b]? = some (.map l.toArray clock)) :
    (execOp f.ev ⟨dst, .call { callee := .builtin .len, args := #[x], argTypes := #[mt] }, ty, pos, after, g⟩).run P w = .ok (.value (.int .i64 l.length)) w := by
  rw [BigFrame.execOp_builtin]
  simp [BigFrame.builtin_len, Builtin.len_, hx, run_underlying hmt, MapKept.run_getObj_map hb, goInt]

theorem VR.updateHit {m x y : Operand} {i0 : Nat} {e : MapEntry} {u v : Value} (hmt : P.underlying mt = some (.map kt et)) (hkt : P.underlying kt = some d)
    (hg : g = none) (hx : f.ev m = .map (some b)) (hix : f.ev x = u) (hy : f.ev y = v)
    (hm : Mem F w Ls) (i j : Nat) (eq : (Ls[i]?).bind (·[j]?) = some (b, .map l.toArray clock)) (h : Ents d l clock) (hi : l[i0]? = some e) (he : e.key = u)
    (hk : ∀ w', Mem F w' (mset Ls i j (.map (l.set i0 ⟨u, v, e.born⟩).toArray clock)) → VR P n ops rest N f w') :
    VR P n ops (⟨none, .mapUpdate mt m x y, ty, pos, after, g⟩ :: rest) N f w := by
  subst he
  have hb := hm.at_ i j eq
  refine VR.skip hg rfl ?_ (hk _ (hm.upd (Upd.block hb) i j eq))
  simp [execOp, hx, hix, hy, run_update_hit hmt hkt hb h hi]
theorem VR.updateMiss {m x y : Operand} {u v : Value} (hmt : P.underlying mt = some (.map kt et)) (hkt : P.underlying kt = some d)
    (hg : g = none) (hx : f.ev m = .map (some b)) (hix : f.ev x = u) (hy : f.ev y = v)
    (hm : Mem F w Ls) (i j : Nat) (eq : (Ls[i]?).bind (·[j]?) = some (b, .map l.toArray clock)) (h : Ents d l clock) (hku : IsKey d u) (hn : ∀ x ∈ l, x.key ≠ u)
    (hk : ∀ w', Mem F w' (mset Ls i j (.map (l ++ [(⟨u, v, clock⟩ : MapEntry)]).toArray (clock + 1))) → VR P n ops rest N f w') :
    VR P n ops (⟨none, .mapUpdate mt m x y, ty, pos, after, g⟩ :: rest) N f w := by
  have hb := hm.at_ i j eq
  refine VR.skip hg rfl ?_ (hk _ (hm.upd (Upd.block hb) i j eq))
  simp [execOp, hx, hix, hy, run_update_miss hmt hkt hb hku h hn]
theorem VL.updateMiss {k : Nat} {C : World → Prop} {louds : List Nat} {m x y : Operand} {u v : Value} (hmt : P.underlying mt = some (.map kt et)) (hkt : P.underlying kt = some d)
    (hld : louds.contains k = true) (hg : g = none) (hx : f.ev m = .map (some b)) (hix : f.ev x = u) (hy : f.ev y = v)
    (hm : Mem F w Ls) (i j : Nat) (eq : (Ls[i]?).bind (·[j]?) = some (b, .map l.toArray clock)) (h : Ents d l clock) (hku : IsKey d u) (hn : ∀ x ∈ l, x.key ≠ u)
    (hC : ∀ w', Mem F w' (mset Ls i j (.map (l ++ [(⟨u, v, clock⟩ : MapEntry)]).toArray (clock + 1))) → C w')
    (hk : ∀ w', Mem F w' (mset Ls i j (.map (l ++ [(⟨u, v, clock⟩ : MapEntry)]).toArray (clock + 1))) → VL P n ops C louds N rest (k + 1) f w') :
    VL P n ops C louds N (⟨none, .mapUpdate mt m x y, ty, pos, after, g⟩ :: rest) k f w := by
  have hb := hm.at_ i j eq
  refine VL.skipG hld (wanted_none (by exact hg) _) rfl ?_ (hC _ (hm.upd (Upd.block hb) i j eq)) (hk _ (hm.upd (Upd.block hb) i j eq))
  simp [execOp, hx, hix, hy, run_update_miss hmt hkt hb hku h hn]
theorem VL.updateHit {k : Nat} {C : World → Prop} {louds : List Nat} {m x y : Operand} {i0 : Nat} {e : MapEntry} {u v : Value} (hmt : P.underlying mt = some (.map kt et)) (hkt : P.underlying kt = some d)
    (hld : louds.contains k = true) (hg : g = none) (hx : f.ev m = .map (some b)) (hix : f.ev x = u) (hy : f.ev y = v)
    (hm : Mem F w Ls) (i j : Nat) (eq : (Ls[i]?).bind (·[j]?) = some (b, .map l.toArray clock)) (h : Ents d l clock) (hi : l[i0]? = some e) (he : e.key = u)
    (hC : ∀ w', Mem F w' (mset Ls i j (.map (l.set i0 ⟨u, v, e.born⟩).toArray clock)) → C w')
    (hk : ∀ w', Mem F w' (mset Ls i j (.map (l.set i0 ⟨u, v, e.born⟩).toArray clock)) → VL P n ops C louds N rest (k + 1) f w') :
    VL P n ops C louds N (⟨none, .mapUpdate mt m x y, ty, pos, after, g⟩ :: rest) k f w := by
  subst he
  have hb := hm.at_ i j eq
  refine VL.skipG hld (wanted_none (by exact hg) _) rfl ?_ (hC _ (hm.upd (Upd.block hb) i j eq)) (hk _ (hm.upd (Upd.block hb) i j eq))
  simp [execOp, hx, hix, hy, run_update_hit hmt hkt hb h hi]
theorem VR.deleteHit {m x : Operand} {i0 : Nat} {e : MapEntry} {u : Value} (hmt : P.underlying mt = some (.map kt et)) (hkt : P.underlying kt = some d)
    (hg : g = none) (hd : dstOk n dst = true) (hx : f.ev m = .map (some b)) (hix : f.ev x = u)
    (hm : Mem F w Ls) (i j : Nat) (eq : (Ls[i]?).bind (·[j]?) = some (b, .map l.toArray clock)) (h : Ents d l clock) (hi : l[i0]? = some e) (he : e.key = u)
    (hk : ∀ w', Mem F w' (mset Ls i j (.map (l.eraseIdx i0).toArray clock)) → VR P n ops rest N (f.putO dst (.tuple #[])) w') :
    VR P n ops (⟨dst, .call { callee := .builtin .delete, args := #[m, x], argTypes := #[mt, kt] }, ty, pos, after, g⟩ :: rest) N f w := by
  subst he
  have hb := hm.at_ i j eq
  refine VR.val hg hd ?_ (hk _ (hm.upd (Upd.block hb) i j eq))
  rw [BigFrame.execOp_builtin]
  have hr := run_delete_hit (P := P) (w := w) (ty := ty) hmt hkt hb h hi
  simp [BigFrame.builtin_delete, hx, hix, hr]
theorem VR.deleteMiss {m x : Operand} {u : Value} (hmt : P.underlying mt = some (.map kt et)) (hkt : P.underlying kt = some d)
    (hg : g = none) (hd : dstOk n dst = true) (hx : f.ev m = .map (some b)) (hix : f.ev x = u)
    (hm : Mem F w Ls) (i j : Nat) (eq : (Ls[i]?).bind (·[j]?) = some (b, .map l.toArray clock)) (h : Ents d l clock) (hku : IsKey d u) (hn : ∀ x ∈ l, x.key ≠ u)
    (hk : ∀ w', Mem F w' (mset Ls i j (.map l.toArray clock)) → VR P n ops rest N (f.putO dst (.tuple #[])) w') :
    VR P n ops (⟨dst, .call { callee := .builtin .delete, args := #[m, x], argTypes := #[mt, kt] }, ty, pos, after, g⟩ :: rest) N f w := by
  have hb := hm.at_ i j eq
  refine VR.val hg hd ?_ (hk _ (hm.upd (Upd.block hb) i j eq))
  rw [BigFrame.execOp_builtin]
  have hr := run_delete_miss (P := P) (w := w) (ty := ty) hmt hkt hb hku h hn
  simp [BigFrame.builtin_delete, hx, hix, hr]
theorem VR.rangeMap {x : Operand} (hmt : P.underlying mt = some (.map kt et)) (hg : g = none) (hd : dstOk n dst = true) (hx : f.ev x = .map (some b)) (hm : Mem F w Ls) (hb : w.heap[b]? = some (.map l.toArray clock))
    (hk : ∀ r w', Mem F w' ([(r, .mapIter (some b) clock #[] clock)] :: Ls) → VR P n ops rest N (f.putO dst (.pointer (some ⟨r, 0, none⟩))) w') :
    VR P n ops (⟨dst, .range mt x, ty, pos, after, g⟩ :: rest) N f w := by
  refine VR.val hg hd ?_ (hk _ _ (hm.alloc _))
  simp [execOp, hx, run_range_map hmt hb]
theorem VR.next {x : Operand} {r since c0 : Nat} {seen : Array Nat} (hg : g = none) (hd : dstOk n dst = true) (hx : f.ev x = .pointer (some ⟨r, 0, none⟩)) (hm : Mem F w Ls) (i j : Nat) (eq : (Ls[i]?).bind (·[j]?) = some (r, .mapIter (some b) since seen c0))
    (hb : w.heap[b]? = some (.map l.toArray clock)) (hold : ∀ x ∈ l, x.born < since) (hsc : since ≤ c0)
    (hend : (∀ x ∈ l, x.born ∈ seen.toList) → VR P n ops rest N (f.putO dst (.tuple #[.bool false])) w)
    (hk : ∀ e ∈ l, e.born ∉ seen.toList → ∀ w', Mem F w' (mset Ls i j (.mapIter (some b) since (seen.push e.born) clock)) → VR P n ops rest N (f.putO dst (.tuple #[.bool true, e.key, e.val])) w') :
    VR P n ops (⟨dst, .next x false, ty, pos, after, g⟩ :: rest) N f w := by
  have hr := hm.at_ i j eq
  rcases run_next_at (P := P) w ty r b since c0 seen l.toArray clock hr hb (by simpa using hold) hsc with ⟨h0, h1⟩ | ⟨e, he, w1, hw1, h1⟩
  · refine VR.val hg hd (v := .tuple #[.bool false]) (w' := w) (by simp [execOp, hx, h1]) (hend fun x hxl => ?_)
    have h2 : leftOf l.toArray seen = #[] := Array.eq_empty_of_size_eq_zero h0
    unfold leftOf at h2
    rw [Array.filter_eq_empty_iff] at h2
    have := h2 x (by simpa using hxl)
    simpa using this
  · have hmem : e ∈ l ∧ e.born ∉ seen.toList := by
      unfold leftOf at he
      simpa using he
    have hu : Upd w (setBlock w1 r (.mapIter (some b) since (seen.push e.born) clock)) r (.mapIter (some b) since (seen.push e.born) clock) := by
      rcases hw1 with rfl | rfl
      · exact Upd.block hr
      · exact Upd.drew (Upd.block (w := w.drew) hr)
    exact VR.val hg hd (by simp [execOp, hx, h1]) (hk e hmem.1 hmem.2 _ (hm.upd hu i j eq))
theorem VR.nextEnd {x : Operand} {r since c0 : Nat} {seen : Array Nat} (hg : g = none) (hd : dstOk n dst = true) (hx : f.ev x = .pointer (some ⟨r, 0, none⟩)) (hm : Mem F w Ls) (i j : Nat) (eq : (Ls[i]?).bind (·[j]?) = some (r, .mapIter (some b) since seen c0))
    (hb : w.heap[b]? = some (.map l.toArray clock)) (hold : ∀ x ∈ l, x.born < since) (hsc : since ≤ c0) (hall : ∀ x ∈ l, x.born ∈ seen.toList)
    (hend : VR P n ops rest N (f.putO dst (.tuple #[.bool false])) w) :
    VR P n ops (⟨dst, .next x false, ty, pos, after, g⟩ :: rest) N f w :=
  VR.next hg hd hx hm i j eq hb hold hsc (fun _ => hend) (fun e he hn => absurd (hall e he) hn)
theorem VR.nextElem {x : Operand} {r since c0 : Nat} {seen : Array Nat} (hg : g = none) (hd : dstOk n dst = true) (hx : f.ev x = .pointer (some ⟨r, 0, none⟩)) (hm : Mem F w Ls) (i j : Nat) (eq : (Ls[i]?).bind (·[j]?) = some (r, .mapIter (some b) since seen c0))
    (hb : w.heap[b]? = some (.map l.toArray clock)) (hold : ∀ x ∈ l, x.born < since) (hsc : since ≤ c0) (hsome : ¬ ∀ x ∈ l, x.born ∈ seen.toList)
    (hk : ∀ e ∈ l, e.born ∉ seen.toList → ∀ w', Mem F w' (mset Ls i j (.mapIter (some b) since (seen.push e.born) clock)) → VR P n ops rest N (f.putO dst (.tuple #[.bool true, e.key, e.val])) w') :
    VR P n ops (⟨dst, .next x false, ty, pos, after, g⟩ :: rest) N f w :=
  VR.next hg hd hx hm i j eq hb hold hsc (fun h => absurd h hsome) hk
theorem r_lookupNil {x ix : Operand} {u z : Value} (hmt : P.underlying mt = some (.map kt et)) (hkt : P.underlying kt = some d) (hx : f.ev x = .map none) (hix : f.ev ix = u) (hz : ∀ w, (zeroValue et).run P w = .ok z w) (hk : IsKey d u) :
    (execOp f.ev ⟨dst, .lookup mt x ix false, ty, pos, after, g⟩).run P w = .ok (.value z) w := by
  simp [execOp, hx, hix, run_lookup_nil hmt hkt hk hz]
theorem n_rangeNil {x : Operand} (hmt : P.underlying mt = some (.map kt et)) (hx : f.ev x = .map none) : RunNew P f ⟨dst, .range mt x, ty, pos, after, g⟩ (fun b => .pointer (some ⟨b, 0, none⟩)) (.mapIter none 0 #[] 0) := fun w => by
  simp [execOp, hx, Instr.range, run_underlying hmt, Result.andThen]
theorem VR.nextNil {x : Operand} {r since c0 : Nat} {seen : Array Nat} (hg : g = none) (hd : dstOk n dst = true) (hx : f.ev x = .pointer (some ⟨r, 0, none⟩)) (hm : Mem F w Ls) (i j : Nat) (eq : (Ls[i]?).bind (·[j]?) = some (r, .mapIter none since seen c0))
    (hend : VR P n ops rest N (f.putO dst (.tuple #[.bool false])) w) :
    VR P n ops (⟨dst, .next x false, ty, pos, after, g⟩ :: rest) N f w := by
  have hr := hm.at_ i j eq
  refine VR.val hg hd (v := .tuple #[.bool false]) ?_ hend
  simp [execOp, hx, Instr.next, getObj, Sem.run, hr, Result.andThen]
theorem n_rangeStr {t : TypeId} {x : Operand} {s : ByteArray} (ht : P.underlying t = some .string) (hx : f.ev x = .string s) : RunNew P f ⟨dst, .range t x, ty, pos, after, g⟩ (fun b => .pointer (some ⟨b, 0, none⟩)) (.stringIter s 0) := fun w => by
  simp [execOp, hx, Instr.range, run_underlying ht, Result.andThen]
theorem Upd.iterAt {w : World} {k : Nat} {s : ByteArray} {pos pos' : Nat} (hk : w.heap[k]? = some (.stringIter s pos)) : Upd w (w.iterAt k s pos') k (.stringIter s pos') := Upd.block hk
theorem VR.nextStr {x : Operand} {r p : Nat} {s : ByteArray} (hg : g = none) (hd : dstOk n dst = true) (hx : f.ev x = .pointer (some ⟨r, 0, none⟩)) (hm : Mem F w Ls) (i j : Nat) (eq : (Ls[i]?).bind (·[j]?) = some (r, .stringIter s p)) (hlt : p < s.size)
    (hk : ∀ w', Mem F w' (mset Ls i j (.stringIter s (p + (Utf8.decode s p).2))) → VR P n ops rest N (f.putO dst (.tuple #[.bool true, .int .i64 p, .int .i32 (Utf8.decode s p).1])) w') :
    VR P n ops (⟨dst, .next x true, ty, pos, after, g⟩ :: rest) N f w := by
  have hr := hm.at_ i j eq
  refine VR.val hg hd ?_ (hk _ (hm.upd (Upd.iterAt hr) i j eq))
  simp [execOp, hx, Lib.run_next_any_at w r s p ty hr hlt]
theorem VR.nextStrEnd {x : Operand} {r p : Nat} {s : ByteArray} (hg : g = none) (hd : dstOk n dst = true) (hx : f.ev x = .pointer (some ⟨r, 0, none⟩)) (hm : Mem F w Ls) (i j : Nat) (eq : (Ls[i]?).bind (·[j]?) = some (r, .stringIter s p)) (hge : ¬ p < s.size)
    (hk : VR P n ops rest N (f.putO dst (.tuple #[.bool false])) w) :
    VR P n ops (⟨dst, .next x true, ty, pos, after, g⟩ :: rest) N f w := by
  have hr := hm.at_ i j eq
  refine VR.val hg hd (v := .tuple #[.bool false]) ?_ hk
  simp [execOp, hx, Lib.run_next_end_at w r s p ty hr hge]
theorem p_lenS {t : TypeId} {x : Operand} {s : ByteArray} (ht : P.underlying t = some .string) (hx : f.ev x = .string s) :
    Pure P f ⟨dst, .call { callee := .builtin .len, args := #[x], argTypes := #[t] }, ty, pos, after, g⟩ (.int .i64 s.size) := fun w => by
  rw [BigFrame.execOp_builtin]
  simp [BigFrame.builtin_len, Builtin.len_, hx, run_underlying ht, goInt]
/-- 'x[:h:m]' -/
theorem p_sliceHME {t e : TypeId} {s : Nat} {x hi mx : Operand} {A : Option Addr} {n c : Nat} {k' k'' : IntKind} {h m : Nat} (ht : P.underlying t = some (.slice e)) (hs : ∀ w, (sizeOf e).run P w = .ok s w)
    (hx : f.ev x = .slice A n c) (hh : f.ev hi = .int k' (h : Int)) (hm : f.ev mx = .int k'' (m : Int)) (h0 : h ≤ m ∧ m ≤ c) :
    Pure P f ⟨dst, .slice t x none (some hi) (some mx), ty, pos, after, g⟩ (.slice A h m) := fun w => by
  have h1 : (0 : Int) ≤ (m : Int) ∧ (m : Int) ≤ c := by omega
  have h2 : (0 : Int) ≤ (h : Int) ∧ (h : Int) ≤ m := by omega
  have hz : A.map (·.add 0) = A := by cases A <;> simp [Addr.add]
  simp [execOp, hx, hh, hm, Instr.sliceAt, Instr.slice, run_underlying ht, Instr.sliceBounds, Instr.sliceBound, asIntOf, h0, hs, hz]
theorem run_eqNilM {t k' e' : TypeId} {a : Option Nat} (ht : P.underlying t = some (.map k' e')) (w : World) : (Op.equal t (.map a) (.map none)).run P w = .ok a.isNone w := by
  show (Op.equalIn (9999 + 1) t (.map a) (.map none)).run P w = _
  unfold Op.equalIn
  simp only [Sem.run_bind, run_underlying ht, Result.andThen_ok]
  cases a <;> rfl
theorem p_eqNilM {t t' k' e' : TypeId} {x : Operand} {a : Option Nat} (ht : P.underlying t = some (.map k' e')) (hx : f.ev x = .map a) :
    Pure P f ⟨dst, .binOp .eql t x (.const (.map none)) t', ty, pos, after, g⟩ (.bool a.isNone) := fun w => by
  have he : (eqGuard .eql t x (.const (.map none)) (.map a) (.map none)).run P w = .ok () w := by simp [eqGuard]
  have h2 : f.ev (.const (.map none)) = .map none := rfl
  simp [execOp, hx, h2, he, binOp, run_eqNilM ht]
theorem p_neNilM {t t' k' e' : TypeId} {x : Operand} {a : Option Nat} (ht : P.underlying t = some (.map k' e')) (hx : f.ev x = .map a) :
    Pure P f ⟨dst, .binOp .neq t x (.const (.map none)) t', ty, pos, after, g⟩ (.bool a.isSome) := fun w => by
  have he : (eqGuard .neq t x (.const (.map none)) (.map a) (.map none)).run P w = .ok () w := by simp [eqGuard]
  have h2 : f.ev (.const (.map none)) = .map none := rfl
  simp [execOp, hx, h2, he, binOp, run_eqNilM ht]
theorem r_entry {x : Operand} {r since : Nat} {seen : Array Nat} {e : MapEntry} (hx : f.ev x = .pointer (some ⟨r, 0, none⟩)) (hr : w.heap[r]? = some (.mapIter (some b) since (seen.push e.born) clock)) (hb : w.heap[b]? = some (.map l.toArray clock))
    (he : e ∈ l) (hn : (l.map (·.born)).Nodup) : (execOp f.ev ⟨dst, .entry x, ty, pos, after, g⟩).run P w = .ok (.value (.tuple #[e.key, e.val])) w := by
  have h1 := run_entry_at (P := P) w r b since seen l.toArray clock e hr hb (by simpa using he) (by simpa using hn)
  simp [execOp, hx, h1]
end
end Go.Bd
