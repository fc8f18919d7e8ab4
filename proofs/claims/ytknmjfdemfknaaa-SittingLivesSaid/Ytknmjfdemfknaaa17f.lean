/- Contracts of layer 17: the document's book. Conditions: as each states. -/
import Derived.Test.Ytknmjfdemfknaaa17e
import Derived.Test.YtknmjfdemfknaaaApart
namespace Go.Bd
open Go.Proofs
set_option linter.unusedVariables false
set_option maxRecDepth 20000

def sc (x : Sa) : List Value := [.int .i64 x.1, .int .i64 x.2.1, .int .i64 x.2.2]
theorem sc_len (x : Sa) : (sc x).length = 3 := rfl
theorem sc_one (x : Sa) : ∀ u ∈ sc x, u.oneCell' = true := by
  intro u hu
  simp only [sc, List.mem_cons, List.not_mem_nil, or_false] at hu
  rcases hu with rfl | rfl | rfl <;> rfl
abbrev rcells (fs : List Sa) : List Value := fs.flatMap sc
theorem rcells_one (fs : List Sa) : ∀ u ∈ rcells fs, u.oneCell' = true := fun u hu => by
  obtain ⟨x, _, hx⟩ := List.mem_flatMap.1 hu
  exact sc_one x u hx
theorem rcells_app (a b : List Sa) : rcells (a ++ b) = rcells a ++ rcells b := List.flatMap_append
theorem rcells_len (fs : List Sa) : (rcells fs).length = fs.length * 3 := flat_len sc_len fs
theorem rcells_set : ∀ {fs : List Sa} {i : Nat} {f : Sa} {e : Int}, fs[i]? = some f → (rcells fs).set (0 + i * 3 + 2) (.int .i64 e) = rcells (fs.set i (f.1, f.2.1, e))
  | [], _, _, _, h => by simp at h
  | x :: r, 0, f, e, h => by
    obtain rfl := Option.some.inj (show some x = some f from h)
    rfl
  | x :: r, i + 1, f, e, h => by
    have ih := rcells_set (fs := r) (i := i) (e := e) h
    have e1 : 0 + (i + 1) * 3 + 2 = (0 + i * 3 + 2) + 1 + 1 + 1 := by omega
    show List.set (_ :: _ :: _ :: rcells r) (0 + (i + 1) * 3 + 2) _ = _ :: _ :: _ :: rcells (r.set i _)
    rw [e1, List.set_cons_succ, List.set_cons_succ, List.set_cons_succ, ih]
theorem OwnS.put {e : TypeId} {s n c g : Nat} {cur : Array Value} {xs : List Value} {v : Value} (h : OwnS e s (some ⟨g, 0, none⟩) n c xs [(g, .cells cur e (0, 0))]) (k : Nat) :
    OwnS e s (some ⟨g, 0, none⟩) n c (xs.set k v) [(g, .cells (cur.setIfInBounds k v) e (0, 0))] := by
  rcases h.2 with ⟨h1, _⟩ | ⟨g', cur', h1, h2, h3, h4, h5, h6⟩
  · cases h1
  · simp only [Option.some.injEq, Addr.mk.injEq] at h1
    obtain rfl := h1.1
    simp only [List.cons.injEq, Prod.mk.injEq, Obj.cells.injEq] at h2
    obtain rfl := h2.1.2.1
    refine ⟨by rw [List.length_set]; exact h.1, .inr ⟨g, _, rfl, rfl, h3, h4, by rw [Array.size_setIfInBounds]; exact h5, ?_⟩⟩
    rw [Array.toList_setIfInBounds, List.take_set, h6]

/-- How the document's book lies. -/
abbrev rbook (r : Ba) (A : Option Addr) (c : Nat) : Obj := .cells #[.int .i64 r.now, .slice A r.fs.length c] 55 (0, 0)
def RMem (F : Env) (w : World) (g : Nat) (r : Ba) (Ls : List Blks) : Prop := ∃ A c L, OwnS 57 3 A r.fs.length c (rcells r.fs) L ∧ Mem F w ([(g, rbook r A c)] :: L :: Ls)

section
variable {F : Env} {w : World} {Ls : List Blks} {g : Nat} {r : Ba} {s t now : Int}
theorem rnew_c (hm : Mem F w Ls) : Calls Try.prog 17 #[.int .i64 now] w (Ret fun v w' => ∃ g, v = .pointer (some ⟨g, 0, none⟩) ∧ RMem F w' g ⟨min (max now 0) 1152921504606846976, []⟩ Ls) := by
  refine Calls.of_vc Try.func17 rfl Try.ntmps17 rfl ?_
  repeat (first | refine VC.seq ?_ | refine VC.block ?_ | refine VC.skip ?_)
  refine VC.region ?_
  refine VR.pure rfl rfl (p_assignP rfl) ?_
  refine VR.nil ?_
  repeat (first | refine VC.seq ?_ | refine VC.block ?_ | refine VC.skip ?_)
  refine VC.region ?_
  refine VR.pure rfl rfl (p_moveI rfl) ?_
  refine VR.pure rfl rfl (p_max rfl rfl) ?_
  refine VR.pure rfl rfl (p_min rfl rfl) ?_
  refine VR.pure rfl rfl (p_build (vs := [(0, .int _ _)]) bld55_0 rfl) ?_
  refine VR.new hm rfl rfl (n_boxG rfl) ?_
  intro g w hm
  refine VR.pure rfl rfl (p_assignP rfl) ?_
  refine VR.nil ?_
  repeat (first | refine VC.seq ?_ | refine VC.block ?_ | refine VC.skip ?_)
  refine VC.ret ⟨_, ResOf.r1 (v := .pointer _) rfl rfl, ?_⟩
  exact ⟨g, rfl, none, 0, [], OwnS.nil _ _, hm.nil_.swap⟩
theorem rend_c {v2 : Value} {T : TypeId} (hm : Mem F w ([(g, .cells #[.int .i64 now, v2] T (0, 0))] :: Ls)) (hn : 0 ≤ now ∧ now ≤ 1152921504606846976) (ht : 1 ≤ t ∧ t ≤ 1000) :
    Calls Try.prog 33 #[.pointer (some ⟨g, 0, none⟩), .int .i64 t] w (Ret fun v w' => v = .int .i64 (endOf now t) ∧ Mem F w' ([(g, .cells #[.int .i64 now, v2] T (0, 0))] :: Ls)) := by
  have he : endOf now t = (now + t + 3) / 4 * 4 := rfl
  refine Calls.of_vc Try.func33 rfl Try.ntmps33 rfl ?_
  repeat (first | refine VC.seq ?_ | refine VC.block ?_ | refine VC.skip ?_)
  refine VC.region ?_
  refine VR.pure rfl rfl (p_assignI rfl) ?_
  refine VR.nil ?_
  repeat (first | refine VC.seq ?_ | refine VC.block ?_ | refine VC.skip ?_)
  refine VC.region ?_
  refine VR.pure rfl rfl (p_moveP rfl) ?_
  refine VR.pure rfl rfl (p_nilCheck rfl) ?_
  refine VR.pure rfl rfl (p_field (fo := 0) Try.underlying55 rfl Try.sizeOf2 rfl rfl rfl) ?_
  refine VR.val rfl rfl (r_load (v := .int _ _) Try.isAgg2 rfl (hm.at_ 0 0 rfl) rfl) ?_
  refine VR.pure rfl rfl (p_moveI rfl) ?_
  refine VR.pure rfl rfl (p_add64 rfl rfl (by omega)) ?_
  refine VR.pure rfl rfl (p_assignI rfl) ?_
  refine VR.nil ?_
  repeat (first | refine VC.seq ?_ | refine VC.block ?_ | refine VC.skip ?_)
  refine VC.loop (σ := Int) (fun u => [(5, .int .i64 u)]) (fun u w => Mem F w ([(g, .cells #[.int .i64 now, v2] T (0, 0))] :: Ls) ∧ now + t ≤ u ∧ u ≤ endOf now t) (fun u => (endOf now t - u).toNat) (now + t) ⟨rfl, trivial⟩ ⟨hm, by omega, by omega⟩ ?_
  clear hm
  rintro u A' w ⟨hm, hu1, hu2⟩
  repeat (first | refine VC.seq ?_ | refine VC.block ?_ | refine VC.skip ?_)
  refine VC.region ?_
  refine VR.pure rfl rfl (p_moveI rfl) ?_
  refine VR.pure rfl rfl (p_rem64 rfl rfl (by omega) (by decide)) ?_
  refine VR.pure rfl rfl (p_ne rfl rfl) ?_
  refine VR.nil ?_
  repeat (first | refine VC.seq ?_ | refine VC.block ?_ | refine VC.skip ?_)
  refine VC.condD rfl (fun h => ?_) (fun h => ?_)
  · repeat (first | refine VC.seq ?_ | refine VC.block ?_ | refine VC.skip ?_)
    refine VC.region ?_
    refine VR.pure rfl rfl (p_moveI rfl) ?_
    refine VR.pure rfl rfl (p_add64 rfl rfl (by omega)) ?_
    refine VR.pure rfl rfl (p_assignI rfl) ?_
    refine VR.nil ?_
    exact ⟨u + 1, ⟨rfl, trivial⟩, ⟨hm, by omega, by omega⟩, by omega⟩
  · repeat (first | refine VC.seq ?_ | refine VC.block ?_ | refine VC.skip ?_)
    refine VC.exit ?_
    repeat (first | refine VC.seq ?_ | refine VC.block ?_ | refine VC.skip ?_)
    refine VC.region ?_
    refine VR.pure rfl rfl (p_moveI rfl) ?_
    refine VR.pure rfl rfl (p_assignI rfl) ?_
    refine VR.nil ?_
    repeat (first | refine VC.seq ?_ | refine VC.block ?_ | refine VC.skip ?_)
    refine VC.ret ⟨_, ResOf.r1 (v := .int _ _) rfl rfl, ?_⟩
    refine ⟨congrArg (Value.int .i64) ?_, hm⟩
    omega
/-- Where a session is. -/
def At (fs : List Sa) (s : Int) (v : Int) : Prop := (∃ (i : Nat) (f : Sa), fs[i]? = some f ∧ f.1 = s ∧ v = i) ∨ ((∀ f ∈ fs, f.1 ≠ s) ∧ v = -1)
theorem rfind_c {A : Option Addr} {c : Nat} (hm : Mem F w Ls) (hg : F.heap g = some (rbook r A c)) (hr : Row F.heap A (r.fs.length * 3) (rcells r.fs)) (hl : r.fs.length ≤ 1000000) :
    Calls Try.prog 34 #[.pointer (some ⟨g, 0, none⟩), .int .i64 s] w (Ret fun v w' => ∃ z, v = .int .i64 z ∧ At r.fs s z ∧ Mem F w' Ls) := by
  refine Calls.of_vc Try.func34 rfl Try.ntmps34 rfl ?_
  repeat (first | refine VC.seq ?_ | refine VC.block ?_ | refine VC.skip ?_)
  refine VC.region ?_
  refine VR.pure rfl rfl (p_assignI rfl) ?_
  refine VR.nil ?_
  repeat (first | refine VC.seq ?_ | refine VC.block ?_ | refine VC.skip ?_)
  refine VC.region ?_
  refine VR.pure rfl rfl (p_assignI rfl) ?_
  refine VR.nil ?_
  repeat (first | refine VC.seq ?_ | refine VC.block ?_ | refine VC.skip ?_)
  refine VC.loop (σ := Nat) (fun k => [(0, .pointer (some ⟨g, 0, none⟩)), (1, .int .i64 s), (5, .int .i64 k)]) (fun k w => Mem F w Ls ∧ k ≤ r.fs.length ∧ ∀ j f, j < k → r.fs[j]? = some f → f.1 ≠ s) (fun k => r.fs.length - k) 0 ⟨rfl, rfl, rfl, trivial⟩ ⟨hm, by omega, by omega⟩ ?_
  clear hm
  rintro k A' w ⟨hm, hk, hno⟩
  repeat (first | refine VC.seq ?_ | refine VC.block ?_ | refine VC.skip ?_)
  refine VC.region ?_
  refine VR.pure rfl rfl (p_moveI rfl) ?_
  refine VR.pure rfl rfl (p_moveP rfl) ?_
  refine VR.pure rfl rfl (p_nilCheck rfl) ?_
  refine VR.pure rfl rfl (p_field (fo := 1) Try.underlying55 rfl Try.sizeOf53 rfl rfl rfl) ?_
  refine VR.val rfl rfl (r_load (v := .slice _ _ _) Try.isAgg53 rfl (hm.fix _ _ hg) rfl) ?_
  refine VR.pure rfl rfl (p_len Try.underlying53 rfl) ?_
  refine VR.pure rfl rfl (p_lt rfl rfl) ?_
  refine VR.nil ?_
  repeat (first | refine VC.seq ?_ | refine VC.block ?_ | refine VC.skip ?_)
  refine VC.condD rfl (fun h => ?_) (fun h => ?_)
  · have hk' : k < r.fs.length := by omega
    obtain ⟨f, hf, hfm⟩ := get_of (xs := r.fs) (k := k) hk'
    obtain ⟨b, off, blk, T, fr, rfl, hb, hc⟩ := hr.elem sc_len (by decide) (by omega)
    repeat (first | refine VC.seq ?_ | refine VC.block ?_ | refine VC.skip ?_)
    refine VC.region ?_
    refine VR.pure rfl rfl (p_moveP rfl) ?_
    refine VR.pure rfl rfl (p_nilCheck rfl) ?_
    refine VR.pure rfl rfl (p_field (fo := 1) Try.underlying55 rfl Try.sizeOf53 rfl rfl rfl) ?_
    refine VR.val rfl rfl (r_load (v := .slice _ _ _) Try.isAgg53 rfl (hm.fix _ _ hg) rfl) ?_
    refine VR.pure rfl rfl (p_moveI rfl) ?_
    refine VR.pure rfl rfl (p_idxN Try.underlying53 Try.sizeOf57 rfl rfl hk') ?_
    refine VR.pure rfl rfl (p_field (fo := 0) Try.underlying57 rfl Try.sizeOf2 rfl rfl rfl) ?_
    refine VR.val rfl rfl (r_load (v := .int _ _) Try.isAgg2 rfl (hm.fix _ _ hb) (hc k f hf 0 (by decide))) ?_
    refine VR.pure rfl rfl (p_moveI rfl) ?_
    refine VR.pure rfl rfl (p_eq rfl rfl) ?_
    refine VR.nil ?_
    repeat (first | refine VC.seq ?_ | refine VC.block ?_ | refine VC.skip ?_)
    refine VC.condD rfl (fun h2 => ?_) (fun h2 => ?_)
    · repeat (first | refine VC.seq ?_ | refine VC.block ?_ | refine VC.skip ?_)
      refine VC.region ?_
      refine VR.pure rfl rfl (p_moveI rfl) ?_
      refine VR.pure rfl rfl (p_assignI rfl) ?_
      refine VR.nil ?_
      repeat (first | refine VC.seq ?_ | refine VC.block ?_ | refine VC.skip ?_)
      refine VC.ret ⟨_, ResOf.r1 (v := .int _ _) rfl rfl, ?_⟩
      exact ⟨_, rfl, .inl ⟨k, f, hf, h2, rfl⟩, hm⟩
    · repeat (first | refine VC.seq ?_ | refine VC.block ?_ | refine VC.skip ?_)
      refine VC.region ?_
      refine VR.pure rfl rfl (p_moveI rfl) ?_
      refine VR.pure rfl rfl (p_add64 rfl rfl (by omega)) ?_
      refine VR.pure rfl rfl (p_assignI rfl) ?_
      refine VR.nil ?_
      refine ⟨k + 1, ⟨rfl, rfl, rfl, trivial⟩, ⟨hm, by omega, fun j f' hj hf' => ?_⟩, by omega⟩
      rcases Nat.lt_or_eq_of_le (Nat.le_of_lt_succ hj) with hj | rfl
      · exact hno j f' hj hf'
      · rw [hf] at hf'
        obtain rfl := Option.some.inj hf'
        exact h2
  · repeat (first | refine VC.seq ?_ | refine VC.block ?_ | refine VC.skip ?_)
    refine VC.exit ?_
    repeat (first | refine VC.seq ?_ | refine VC.block ?_ | refine VC.skip ?_)
    refine VC.region ?_
    refine VR.pure rfl rfl (p_assignI rfl) ?_
    refine VR.nil ?_
    repeat (first | refine VC.seq ?_ | refine VC.block ?_ | refine VC.skip ?_)
    refine VC.ret ⟨_, ResOf.r1 (v := .int _ _) rfl rfl, ?_⟩
    refine ⟨_, rfl, .inr ⟨fun f hf => ?_, rfl⟩, hm⟩
    obtain ⟨j, hj, rfl⟩ := List.mem_iff_getElem.1 hf
    exact hno j _ (by omega) (List.getElem?_eq_getElem hj)
theorem take_drop_erase {α : Type} (l : List α) (i : Nat) : l.take i ++ l.drop (i + 1) = l.eraseIdx i := (List.eraseIdx_eq_take_drop_succ l i).symm
theorem At.some {fs : List Sa} {v : Int} (h : At fs s v) (hap : Apart fs) : (∃ (i : Nat) (f : Sa), fs[i]? = some f ∧ f.1 = s ∧ v = i ∧ inS fs s = some f) ∨ ((∀ f ∈ fs, f.1 ≠ s) ∧ v = -1 ∧ inS fs s = none) := by
  rcases h with ⟨i, f, h1, h2, h3⟩ | ⟨h1, h2⟩
  · exact .inl ⟨i, f, h1, h2, h3, by rw [← h2]; exact inS_at hap h1⟩
  · exact .inr ⟨h1, h2, inS_none h1⟩
set_option maxHeartbeats 1000000 in
theorem rremove_c (hm : RMem F w g r Ls) (hap : Apart r.fs) (hl : r.fs.length ≤ 1000000) :
    Calls Try.prog 27 #[.pointer (some ⟨g, 0, none⟩), .int .i64 s] w (Ret fun v w' => v = .bool (removeB r s).1 ∧ RMem F w' g (removeB r s).2 Ls) := by
  obtain ⟨A, c, L, ho, hm⟩ := hm
  refine Calls.of_vc Try.func27 rfl Try.ntmps27 rfl ?_
  repeat (first | refine VC.seq ?_ | refine VC.block ?_ | refine VC.skip ?_)
  refine VC.region ?_
  refine VR.pure rfl rfl (p_assignB rfl) ?_
  refine VR.nil ?_
  repeat (first | refine VC.seq ?_ | refine VC.block ?_ | refine VC.skip ?_)
  refine VC.region ?_
  refine VR.pure rfl rfl (p_moveP rfl) ?_
  refine VR.pure rfl rfl (p_moveI rfl) ?_
  refine VR.call rfl rfl (r_call2 Try.call34 rfl rfl) (rfind_c (r := r) hm.all (hm.plus_at 0 0 rfl) (ho.row (hm.plus_i 1 rfl)) hl) ?_
  rintro _ w ⟨z, rfl, hat, hm'⟩
  replace hm := hm.back0 hm'
  refine VR.pure rfl rfl (p_assignI rfl) ?_
  refine VR.nil ?_
  rcases hat.some hap with ⟨i, f, hi, hf, rfl, hin⟩ | ⟨hno, rfl, hin⟩
  · have hb : removeB r s = (true, ⟨r.now, delS r.fs s⟩) := by
      unfold removeB
      rw [hin]
    have hdel : delS r.fs s = r.fs.take i ++ r.fs.drop (i + 1) := by
      rw [← hf, delS_at hap hi, take_drop_erase]
    have hi' := (List.getElem?_eq_some_iff.1 hi).1
    rw [hb, hdel]
    repeat (first | refine VC.seq ?_ | refine VC.block ?_ | refine VC.skip ?_)
    refine VC.region ?_
    refine VR.pure rfl rfl (p_moveI rfl) ?_
    refine VR.pure rfl rfl (p_lt rfl rfl) ?_
    refine VR.nil ?_
    repeat (first | refine VC.seq ?_ | refine VC.block ?_ | refine VC.skip ?_)
    refine VC.condD rfl (fun h2 => ?_) (fun h2 => ?_)
    · omega
    · obtain ⟨G, hu, hm, hL⟩ := hm.swap.freeze
      have hr := ho.row hL
      have hc := ho.le
      have h1 := Row.heads sc_len hr rfl (show i ≤ r.fs.length by omega)
      obtain ⟨A2, hA2, hr2⟩ := hr.dropE (l := i + 1) (c := c) (by omega) hc.1
      have hr2' : Row G.heap A2 ((r.fs.length - (i + 1)) * 3) (rcells (r.fs.drop (i + 1))) := by
        have e : (rcells r.fs).drop ((i + 1) * 3) = rcells (r.fs.drop (i + 1)) := by
          conv => lhs; rw [← List.take_append_drop (i + 1) r.fs]
          rw [rcells_app, List.drop_left' (by rw [rcells_len, List.length_take, Nat.min_eq_left (by omega)])]
        rwa [e] at hr2
      have hlt : (r.fs.take i).length = i := by rw [List.length_take]; omega
      have hld : (r.fs.drop (i + 1)).length = r.fs.length - (i + 1) := List.length_drop
      repeat (first | refine VC.seq ?_ | refine VC.block ?_ | refine VC.skip ?_)
      refine VC.region ?_
      refine VR.pure rfl rfl (p_assignL rfl) ?_
      refine VR.nil ?_
      repeat (first | refine VC.seq ?_ | refine VC.block ?_ | refine VC.skip ?_)
      refine VC.region ?_
      refine VR.pure rfl rfl (p_moveL rfl) ?_
      refine VR.pure rfl rfl (p_moveP rfl) ?_
      refine VR.pure rfl rfl (p_nilCheck rfl) ?_
      refine VR.pure rfl rfl (p_field (fo := 1) Try.underlying55 rfl Try.sizeOf53 rfl rfl rfl) ?_
      refine VR.val rfl rfl (r_load (v := .slice _ _ _) Try.isAgg53 rfl (hm.at_ 0 0 rfl) rfl) ?_
      refine VR.pure rfl rfl (p_moveI rfl) ?_
      refine VR.pure rfl rfl (p_sliceHN (h := i) Try.underlying53 Try.sizeOf57 rfl rfl (by omega)) ?_
      replace hm := hm.nil_
      refine VR.append (s := 3) (bytes := 24) Try.underlying53 inf57 rfl rfl rfl rfl rfl rfl rfl rfl rfl hm (OwnS.nil _ _) (h1.mono hm.fix) (rcells_one _) (Nat.zero_add i) ⟨by unfold maxLen; omega, by omega⟩ ?_
      intro A7 c7 w L7 ho7 hm
      refine VR.pure rfl rfl (p_assignL rfl) ?_
      refine VR.nil ?_
      repeat (first | refine VC.seq ?_ | refine VC.block ?_ | refine VC.skip ?_)
      refine VC.region ?_
      refine VR.pure rfl rfl (p_moveP rfl) ?_
      refine VR.pure rfl rfl (p_moveL rfl) ?_
      refine VR.pure rfl rfl (p_moveP rfl) ?_
      refine VR.pure rfl rfl (p_nilCheck rfl) ?_
      refine VR.pure rfl rfl (p_field (fo := 1) Try.underlying55 rfl Try.sizeOf53 rfl rfl rfl) ?_
      refine VR.val rfl rfl (r_load (v := .slice _ _ _) Try.isAgg53 rfl (hm.at_ 1 0 rfl) rfl) ?_
      refine VR.pure rfl rfl (p_moveI rfl) ?_
      refine VR.pure rfl rfl (p_add64E (r := ((i + 1 : Nat) : Int)) rfl rfl (by omega) (by omega)) ?_
      refine VR.pure rfl rfl (p_sliceLE Try.underlying53 Try.sizeOf57 rfl rfl (by omega) hA2 rfl rfl) ?_
      refine VR.append (s := 3) (bytes := 24) Try.underlying53 inf57 rfl rfl rfl rfl rfl rfl rfl rfl rfl hm ho7 (hr2'.mono hm.fix) (rcells_one _) rfl ⟨by unfold maxLen; omega, by omega⟩ ?_
      intro A9 c9 w L9 ho9 hm
      refine VR.pure rfl rfl (p_nilCheck rfl) ?_
      refine VR.pure rfl rfl (p_field (fo := 1) Try.underlying55 rfl Try.sizeOf53 rfl rfl rfl) ?_
      refine VR.store (cs' := #[.int .i64 r.now, .slice A9 (i + (r.fs.length - (i + 1))) c9]) (v := .slice _ _ _) Try.sizeOf53 rfl rfl rfl rfl rfl hm 1 0 rfl (Nat.ble_eq.mp rfl) rfl ?_
      intro w hm
      refine VR.nil ?_
      repeat (first | refine VC.seq ?_ | refine VC.block ?_ | refine VC.skip ?_)
      refine VC.region ?_
      refine VR.pure rfl rfl (p_assignB rfl) ?_
      refine VR.nil ?_
      repeat (first | refine VC.seq ?_ | refine VC.block ?_ | refine VC.skip ?_)
      refine VC.ret ⟨_, ResOf.r1 (v := .bool _) rfl rfl, ?_⟩
      have hlen : (r.fs.take i ++ r.fs.drop (i + 1)).length = i + (r.fs.length - (i + 1)) := by rw [List.length_append, hlt, hld]
      refine ⟨rfl, A9, c9, L9, ?_, ?_⟩
      · show OwnS _ 3 A9 (r.fs.take i ++ r.fs.drop (i + 1)).length c9 (rcells (r.fs.take i ++ r.fs.drop (i + 1))) L9
        rw [hlen, rcells_app]
        exact ho9
      · unfold rbook
        show Mem F w ([(g, .cells #[.int .i64 r.now, .slice A9 (r.fs.take i ++ r.fs.drop (i + 1)).length c9] 55 (0, 0))] :: L9 :: Ls)
        rw [hlen]
        exact hm.swap.shrink hu
  · have hb : removeB r s = (false, r) := by
      unfold removeB
      rw [hin]
    rw [hb]
    repeat (first | refine VC.seq ?_ | refine VC.block ?_ | refine VC.skip ?_)
    refine VC.region ?_
    refine VR.pure rfl rfl (p_moveI rfl) ?_
    refine VR.pure rfl rfl (p_lt rfl rfl) ?_
    refine VR.nil ?_
    repeat (first | refine VC.seq ?_ | refine VC.block ?_ | refine VC.skip ?_)
    refine VC.condD rfl (fun h2 => ?_) (fun h2 => ?_)
    · repeat (first | refine VC.seq ?_ | refine VC.block ?_ | refine VC.skip ?_)
      refine VC.region ?_
      refine VR.pure rfl rfl (p_assignB rfl) ?_
      refine VR.nil ?_
      repeat (first | refine VC.seq ?_ | refine VC.block ?_ | refine VC.skip ?_)
      refine VC.ret ⟨_, ResOf.r1 (v := .bool _) rfl rfl, ?_⟩
      exact ⟨rfl, A, c, L, ho, hm⟩
    · omega
set_option maxHeartbeats 1000000 in
theorem rtouch_c (hm : RMem F w g r Ls) (hap : Apart r.fs) (hl : r.fs.length ≤ 1000000) (hn : 0 ≤ r.now ∧ r.now ≤ 1152921504606846976) (ht : ∀ f ∈ r.fs, 1 ≤ f.2.1 ∧ f.2.1 ≤ 1000) :
    Calls Try.prog 26 #[.pointer (some ⟨g, 0, none⟩), .int .i64 s] w (Ret fun v w' => v = .bool (touchB r s).1 ∧ RMem F w' g (touchB r s).2 Ls) := by
  obtain ⟨A, c, L, ho, hm⟩ := hm
  refine Calls.of_vc Try.func26 rfl Try.ntmps26 rfl ?_
  repeat (first | refine VC.seq ?_ | refine VC.block ?_ | refine VC.skip ?_)
  refine VC.region ?_
  refine VR.pure rfl rfl (p_assignB rfl) ?_
  refine VR.nil ?_
  repeat (first | refine VC.seq ?_ | refine VC.block ?_ | refine VC.skip ?_)
  refine VC.region ?_
  refine VR.pure rfl rfl (p_moveP rfl) ?_
  refine VR.pure rfl rfl (p_moveI rfl) ?_
  refine VR.call rfl rfl (r_call2 Try.call34 rfl rfl) (rfind_c (r := r) hm.all (hm.plus_at 0 0 rfl) (ho.row (hm.plus_i 1 rfl)) hl) ?_
  rintro _ w ⟨z, rfl, hat, hm'⟩
  replace hm := hm.back0 hm'
  refine VR.pure rfl rfl (p_assignI rfl) ?_
  refine VR.nil ?_
  rcases hat.some hap with ⟨i, f, hi, hf, rfl, hin⟩ | ⟨hno, rfl, hin⟩
  · have hb : touchB r s = (true, ⟨r.now, putS r.fs (s, f.2.1, endOf r.now f.2.1)⟩) := by
      unfold touchB
      rw [hin]
    have hput : putS r.fs (s, f.2.1, endOf r.now f.2.1) = r.fs.set i (f.1, f.2.1, endOf r.now f.2.1) := by
      rw [putS_at hap hi hf.symm, hf]
    have hi' := (List.getElem?_eq_some_iff.1 hi).1
    rw [hb, hput]
    repeat (first | refine VC.seq ?_ | refine VC.block ?_ | refine VC.skip ?_)
    refine VC.region ?_
    refine VR.pure rfl rfl (p_moveI rfl) ?_
    refine VR.pure rfl rfl (p_lt rfl rfl) ?_
    refine VR.nil ?_
    repeat (first | refine VC.seq ?_ | refine VC.block ?_ | refine VC.skip ?_)
    refine VC.condD rfl (fun h2 => ?_) (fun h2 => ?_)
    · omega
    · have hft := ht f (List.mem_of_getElem? hi)
      rcases ho.2 with ⟨_, h0, _⟩ | ⟨gl, cur, rfl, rfl, h3, h4, h5, h6⟩
      · omega
      · have hrow := ho.row (H := fun b => w.heap[b]?) (fun p hp => hm.own p (by simp only [List.flatten_cons, List.mem_append]; exact .inr (.inl hp)))
        have hcell : ∀ j, j < 3 → cur[0 + i * 3 + j]? = (sc f)[j]? := fun j hj => by
          have h7 : (cur.toList.take (r.fs.length * 3))[i * 3 + j]? = (rcells r.fs)[i * 3 + j]? := by rw [h6]
          rw [List.getElem?_take, if_pos (by omega), flat_at sc_len hi hj, Array.getElem?_toList] at h7
          rw [Nat.zero_add]
          exact h7
        repeat (first | refine VC.seq ?_ | refine VC.block ?_ | refine VC.skip ?_)
        refine VC.free (Kept F ([(g, rbook r (some ⟨gl, 0, none⟩) c)] :: [])) [13, 14, 17] rfl (by kernel_rfl) (Kept.one hm.drew 0 rfl) ?_
        replace hm := hm.drew
        refine VD.pure 0 rfl (by kernel_rfl) rfl rfl (p_moveP rfl) ?_
        refine VD.pure 1 rfl (by kernel_rfl) rfl rfl (p_nilCheck rfl) ?_
        refine VD.pure 2 rfl (by kernel_rfl) rfl rfl (p_field (fo := 1) Try.underlying55 rfl Try.sizeOf53 rfl rfl rfl) ?_
        refine VD.read 3 rfl (by kernel_rfl) rfl rfl (fun w' hw' => r_load (v := .slice _ _ _) Try.isAgg53 rfl (hw'.at_ 0 0 rfl) rfl) ?_
        refine VD.pure 4 rfl (by kernel_rfl) rfl rfl (p_moveI rfl) ?_
        refine VD.pure 5 rfl (by kernel_rfl) rfl rfl (p_moveP rfl) ?_
        refine VD.pure 6 rfl (by kernel_rfl) rfl rfl (p_moveP rfl) ?_
        refine VD.pure 7 rfl (by kernel_rfl) rfl rfl (p_nilCheck rfl) ?_
        refine VD.pure 8 rfl (by kernel_rfl) rfl rfl (p_field (fo := 1) Try.underlying55 rfl Try.sizeOf53 rfl rfl rfl) ?_
        refine VD.read 9 rfl (by kernel_rfl) rfl rfl (fun w' hw' => r_load (v := .slice _ _ _) Try.isAgg53 rfl (hw'.at_ 0 0 rfl) rfl) ?_
        refine VD.pure 10 rfl (by kernel_rfl) rfl rfl (p_moveI rfl) ?_
        refine VD.pure 11 rfl (by kernel_rfl) rfl rfl (p_idxN Try.underlying53 Try.sizeOf57 rfl rfl hi') ?_
        refine VD.pure 12 rfl (by kernel_rfl) rfl rfl (p_field (fo := 1) Try.underlying57 rfl Try.sizeOf3 rfl rfl rfl) ?_
        refine VD.turn1 13 (by kernel_rfl) ?_
        refine VDT.val rfl rfl rfl (r_load (v := .int _ _) Try.isAgg3 rfl (hm.at_ 1 0 rfl) (hcell 1 (by decide))) (Kept.one hm 0 rfl) ?_
        refine VD.turn1 14 (by kernel_rfl) ?_
        refine VDT.call rfl rfl rfl (r_call2 Try.call33 rfl rfl) (rend_c (Ls := _) hm hn hft) ?_
        rintro _ w ⟨rfl, hm⟩
        refine ⟨Kept.one hm 0 rfl, ?_⟩
        refine VD.pure 15 rfl (by kernel_rfl) rfl rfl (p_idxN Try.underlying53 Try.sizeOf57 rfl rfl hi') ?_
        refine VD.pure 16 rfl (by kernel_rfl) rfl rfl (p_field (fo := 2) Try.underlying57 rfl Try.sizeOf2 rfl rfl rfl) ?_
        refine VD.turn1 17 (by kernel_rfl) ?_
        refine VDT.store (cs' := (cur.setIfInBounds (0 + i * 3 + 2) (.int .i64 (endOf r.now f.2.1)))) (v := .int _ _) Try.sizeOf2 rfl rfl rfl rfl rfl rfl hm 1 0 rfl (by omega) rfl (fun w' hm' => Kept.one hm' 0 rfl) ?_
        intro w hm
        refine VD.nil (by kernel_rfl) rfl ?_
        repeat (first | refine VC.seq ?_ | refine VC.block ?_ | refine VC.skip ?_)
        refine VC.region ?_
        refine VR.pure rfl rfl (p_assignB rfl) ?_
        refine VR.nil ?_
        repeat (first | refine VC.seq ?_ | refine VC.block ?_ | refine VC.skip ?_)
        refine VC.ret ⟨_, ResOf.r1 (v := .bool _) rfl rfl, ?_⟩
        refine ⟨rfl, some ⟨gl, 0, none⟩, c, [(gl, .cells (cur.setIfInBounds (0 + i * 3 + 2) (.int .i64 (endOf r.now f.2.1))) 57 (0, 0))], ?_, ?_⟩
        · show OwnS _ 3 _ (r.fs.set i _).length c (rcells (r.fs.set i _)) _
          rw [List.length_set, ← rcells_set hi]
          exact ho.put _
        · unfold rbook
          show Mem F w ([(g, .cells #[.int .i64 r.now, .slice (some ⟨gl, 0, none⟩) (r.fs.set i (f.1, f.2.1, endOf r.now f.2.1)).length c] 55 (0, 0))] :: _ :: Ls)
          rw [List.length_set]
          exact hm
  · have hb : touchB r s = (false, r) := by
      unfold touchB
      rw [hin]
    rw [hb]
    repeat (first | refine VC.seq ?_ | refine VC.block ?_ | refine VC.skip ?_)
    refine VC.region ?_
    refine VR.pure rfl rfl (p_moveI rfl) ?_
    refine VR.pure rfl rfl (p_lt rfl rfl) ?_
    refine VR.nil ?_
    repeat (first | refine VC.seq ?_ | refine VC.block ?_ | refine VC.skip ?_)
    refine VC.condD rfl (fun h2 => ?_) (fun h2 => ?_)
    · repeat (first | refine VC.seq ?_ | refine VC.block ?_ | refine VC.skip ?_)
      refine VC.region ?_
      refine VR.pure rfl rfl (p_assignB rfl) ?_
      refine VR.nil ?_
      repeat (first | refine VC.seq ?_ | refine VC.block ?_ | refine VC.skip ?_)
      refine VC.ret ⟨_, ResOf.r1 (v := .bool _) rfl rfl, ?_⟩
      exact ⟨rfl, A, c, L, ho, hm⟩
    · omega
end
end Go.Bd
