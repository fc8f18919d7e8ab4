/- Contracts of layer 8: the document's disk read, synced, files dropped and put. Conditions: as each states. -/
import Derived.Test.Ytjohjlhjeommiaa08p
namespace Go.Bd
open Go.Proofs
set_option linter.unusedVariables false
set_option maxRecDepth 20000

theorem rcells_put : ∀ {rs : List Rf} {i : Nat} {f f' : Rf} {j : Nat} {v : Value}, rs[i]? = some f → j < 3 → f'.cells = f.cells.set j v → (rcells rs).set (0 + i * 3 + j) v = rcells (rs.set i f')
  | [], _, _, _, _, _, h, _, _ => by simp at h
  | x :: r, 0, f, f', j, v, h, hj, hc => by
    obtain rfl := Option.some.inj (show some x = some f from h)
    show (x.cells ++ rcells r).set (0 + 0 * 3 + j) v = f'.cells ++ rcells r
    rw [Nat.zero_mul, Nat.zero_add, List.set_append_left _ _ (by rw [Rf.len]; exact hj), hc]
  | x :: r, i + 1, f, f', j, v, h, hj, hc => by
    have ih := rcells_put (rs := r) (i := i) (f := f) (f' := f') (j := j) (v := v) h hj hc
    show (x.cells ++ rcells r).set (0 + (i + 1) * 3 + j) v = x.cells ++ rcells (r.set i f')
    rw [List.set_append_right _ _ (by rw [Rf.len]; omega), Rf.len, show 0 + (i + 1) * 3 + j - 3 = 0 + i * 3 + j by omega, ih]
theorem OwnS.put {e : TypeId} {s n c g : Nat} {cur : Array Value} {xs : List Value} {v : Value} (h : OwnS e s (some ⟨g, 0, none⟩) n c xs [(g, .cells cur e (0, 0))]) (k : Nat) :
    OwnS e s (some ⟨g, 0, none⟩) n c (xs.set k v) [(g, .cells (cur.setIfInBounds k v) e (0, 0))] := by
  rcases h.2 with ⟨h1, _⟩ | ⟨g', cur', h1, h2, h3, h4, h5, h6⟩
  · cases h1
  · simp only [Option.some.injEq, Addr.mk.injEq] at h1
    obtain rfl := h1.1
    simp only [List.cons.injEq, Prod.mk.injEq, Obj.cells.injEq] at h2
    obtain rfl := h2.1.2.1
    refine ⟨by rw [List.length_set]; exact h.1, .inr ⟨g, _, rfl, rfl, h3, h4, by rw [Array.size_setIfInBounds]; exact h5, ?_⟩⟩
    rw [Array.toList_setIfInBounds, List.take_set, h6]
/-- A file of the list, as its cells lie. -/
theorem OwnR.cell {rs : List Rf} {gl c : Nat} {cur : Array Value} (h : OwnR rs (some ⟨gl, 0, none⟩) c [(gl, .cells cur 112 (0, 0))]) {i : Nat} {f : Rf} (hi : rs[i]? = some f) :
    (∀ j, j < 3 → cur[0 + i * 3 + j]? = f.cells[j]?) ∧ 0 + i * 3 + 3 ≤ cur.size := by
  have hil := (List.getElem?_eq_some_iff.1 hi).1
  rcases h.2 with ⟨h1, _⟩ | ⟨g', cur', h1, h2, h3, h4, h5, h6⟩
  · cases h1
  · simp only [Option.some.injEq, Addr.mk.injEq] at h1
    obtain rfl := h1.1
    simp only [List.cons.injEq, Prod.mk.injEq, Obj.cells.injEq] at h2
    obtain rfl := h2.1.2.1
    refine ⟨fun j hj => ?_, by omega⟩
    have h7 : (cur.toList.take (rs.length * 3))[i * 3 + j]? = (rcells rs)[i * 3 + j]? := by rw [h6]
    rw [List.getElem?_take, if_pos (by omega), flat_at Rf.len hi hj, Array.getElem?_toList] at h7
    rw [Nat.zero_add]
    exact h7
theorem OwnR.lit {rs : List Rf} {A : Option Addr} {c : Nat} {L : Blks} (h : OwnR rs A c L) {i : Nat} (hi : i < rs.length) : ∃ gl cur, A = some ⟨gl, 0, none⟩ ∧ L = [(gl, .cells cur 112 (0, 0))] := by
  rcases h.2 with ⟨_, h0, _⟩ | ⟨gl, cur, h1, h2, _⟩
  · omega
  · exact ⟨gl, cur, h1, h2⟩
abbrev absR (rs : List Rf) : List Fa := rs.map Rf.abs
/-- Names rise. -/
def AscN (rs : List Rf) : Prop := rs.Pairwise fun x y => keyN x.name < keyN y.name
theorem AscN.apart {rs : List Rf} (h : AscN rs) : Apart (absR rs) := by
  refine List.pairwise_map.2 (List.Pairwise.imp (fun {x y} hlt e => ?_) h)
  have e' : x.name = y.name := e
  rw [e'] at hlt
  exact List.lt_irrefl _ hlt
theorem AscN.set {rs : List Rf} (h : AscN rs) {i : Nat} {f f' : Rf} (hi : rs[i]? = some f) (hn : f'.name = f.name) : AscN (rs.set i f') := by
  have h1 : (rs.map fun x => keyN x.name).Pairwise (· < ·) := List.pairwise_map.2 h
  have e : (rs.set i f').map (fun x => keyN x.name) = rs.map fun x => keyN x.name := by
    rw [List.map_set, hn]
    apply List.ext_getElem?
    intro j
    rw [List.getElem?_set]
    by_cases e : i = j
    · subst e
      rw [if_pos rfl, List.getElem?_map, hi, List.length_map, if_pos (List.getElem?_eq_some_iff.1 hi).1]
      rfl
    · rw [if_neg e]
  rw [← e] at h1
  exact List.pairwise_map.1 h1
theorem key_ne {a b : ByteArray} (h : a ≠ b) : keyN a ≠ keyN b := fun e => h (Go.WideShapes.bytes_inj e)
theorem key_gt {a b : ByteArray} (h : ¬ keyN a < keyN b) (hne : a ≠ b) : keyN b < keyN a :=
  Classical.byContradiction fun h2 => key_ne hne (List.le_antisymm (List.not_lt.1 h2) (List.not_lt.1 h))
theorem At.inA {rs : List Rf} {s : ByteArray} {v : Int} (h : At rs s v) (hap : Apart (absR rs)) :
    (∃ (i : Nat) (f : Rf), rs[i]? = some f ∧ f.name = s ∧ v = i ∧ inA (absR rs) s = some f.abs ∧ i < rs.length ∧ (absR rs)[i]? = some f.abs) ∨ ((∀ f ∈ absR rs, f.1 ≠ s) ∧ v = -1 ∧ inA (absR rs) s = none) := by
  rcases h with ⟨i, f, h1, h2, h3⟩ | ⟨h1, h2⟩
  · have h4 : (absR rs)[i]? = some f.abs := by rw [List.getElem?_map, h1]; rfl
    exact .inl ⟨i, f, h1, h2, h3, by rw [← h2]; exact inA_at hap h4, (List.getElem?_eq_some_iff.1 h1).1, h4⟩
  · have h3 : ∀ f ∈ absR rs, f.1 ≠ s := fun f hf => by
      obtain ⟨x, hx, rfl⟩ := List.mem_map.1 hf
      exact h1 x hx
    exact .inr ⟨h3, h2, inA_none h3⟩

section
variable {F : Env} {w : World} {Ls : List Blks} {g : Nat} {room : Int} {rs : List Rf} {s t : ByteArray}
theorem rread_c {A : Option Addr} {c : Nat} (hm : Mem F w Ls) (hg : F.heap g = some (rdisk room rs A c)) (hr : Row F.heap A (rs.length * 3) (rcells rs)) (hok : ∀ x ∈ rs, RfOk F.heap x) (hl : rs.length ≤ 1000000) (hap : Apart (absR rs)) :
    Calls Try.prog 36 #[.pointer (some ⟨g, 0, none⟩), .string s] w (Ret fun v w' => ∃ A' n' c' M, v = .tuple #[.slice A' n' c', .int .i64 (readA ⟨room, absR rs⟩ s).1] ∧ OwnS 5 1 A' n' c' (bytes (readA ⟨room, absR rs⟩ s).2) M ∧ Mem F w' (M :: Ls)) := by
  refine Calls.of_vc Try.func36 rfl Try.ntmps36 rfl ?_
  repeat (first | refine VC.seq ?_ | refine VC.block ?_ | refine VC.skip ?_)
  refine VC.region ?_
  refine VR.pure rfl rfl (p_assignL rfl) ?_
  refine VR.pure rfl rfl (p_assignI rfl) ?_
  refine VR.nil ?_
  repeat (first | refine VC.seq ?_ | refine VC.block ?_ | refine VC.skip ?_)
  refine VC.region ?_
  refine VR.pure rfl rfl (p_moveP rfl) ?_
  refine VR.pure rfl rfl (p_moveZ rfl) ?_
  refine VR.call rfl rfl (r_call2 Try.call63 rfl rfl) (rfind_c hm hg hr hl) ?_
  rintro _ w ⟨z, rfl, hat, hm⟩
  refine VR.pure rfl rfl (p_assignI rfl) ?_
  refine VR.nil ?_
  repeat (first | refine VC.seq ?_ | refine VC.block ?_ | refine VC.skip ?_)
  refine VC.region ?_
  refine VR.pure rfl rfl (p_moveI rfl) ?_
  refine VR.pure rfl rfl (p_lt rfl rfl) ?_
  refine VR.nil ?_
  rcases hat.inA hap with ⟨i, f, hi, hf, rfl, hin, hi', _⟩ | ⟨hno, rfl, hin⟩
  · have hrd : readA ⟨room, absR rs⟩ s = (0, f.l) := by
      unfold readA
      rw [hin]
      rfl
    rw [hrd]
    repeat (first | refine VC.seq ?_ | refine VC.block ?_ | refine VC.skip ?_)
    refine VC.condD rfl (fun h2 => ?_) (fun h2 => ?_)
    · omega
    · have hfo := hok f (List.mem_of_getElem? hi)
      have hrow : Row F.heap f.A (f.n * 1) (bytes f.l) := by rw [Nat.mul_one]; exact hfo.row
      have hle := hfo.le
      obtain ⟨b, off, blk, T, fr, rfl, hb, hc⟩ := hr.elem Rf.len (by decide) (by omega)
      repeat (first | refine VC.seq ?_ | refine VC.block ?_ | refine VC.skip ?_)
      refine VC.region ?_
      refine VR.new hm rfl rfl (n_buildSlice0 Try.underlying22 inf5) ?_
      intro b0 w hm
      refine VR.pure rfl rfl (p_moveP rfl) ?_
      refine VR.pure rfl rfl (p_nilCheck rfl) ?_
      refine VR.pure rfl rfl (p_field (fo := 1) Try.underlying109 rfl Try.sizeOf107 rfl rfl rfl) ?_
      refine VR.val rfl rfl (r_load (v := .slice _ _ _) Try.isAgg107 rfl (hm.fix _ _ hg) rfl) ?_
      refine VR.pure rfl rfl (p_moveI rfl) ?_
      refine VR.pure rfl rfl (p_idxN Try.underlying107 Try.sizeOf112 rfl rfl hi') ?_
      refine VR.pure rfl rfl (p_field (fo := 1) Try.underlying112 rfl Try.sizeOf22 rfl rfl rfl) ?_
      refine VR.val rfl rfl (r_load (v := .slice _ _ _) Try.isAgg22 rfl (hm.fix _ _ hb) (hc i f hi 1 (by decide))) ?_
      refine VR.append (s := 1) (bytes := 1) Try.underlying22 inf5 rfl rfl rfl rfl rfl rfl rfl rfl rfl hm (OwnS.made (c := 0) (by unfold maxLen; omega) rfl) (hrow.mono hm.fix) (bytes_one f.l) (Nat.zero_add f.n) ⟨by unfold maxLen; omega, by omega⟩ ?_
      intro A9 c9 w L9 ho9 hm
      refine VR.pure rfl rfl (p_assignL rfl) ?_
      refine VR.pure rfl rfl (p_assignI rfl) ?_
      refine VR.nil ?_
      repeat (first | refine VC.seq ?_ | refine VC.block ?_ | refine VC.skip ?_)
      refine VC.ret ⟨_, ResOf.r2 (v := .slice _ _ _) (u := .int _ _) rfl rfl rfl, ?_⟩
      exact ⟨A9, f.n, c9, L9, rfl, ho9, hm⟩
  · have hrd : readA ⟨room, absR rs⟩ s = (6, []) := by
      unfold readA
      rw [hin]
    rw [hrd]
    repeat (first | refine VC.seq ?_ | refine VC.block ?_ | refine VC.skip ?_)
    refine VC.condD rfl (fun h2 => ?_) (fun h2 => ?_)
    · repeat (first | refine VC.seq ?_ | refine VC.block ?_ | refine VC.skip ?_)
      refine VC.region ?_
      refine VR.pure rfl rfl (p_assignL rfl) ?_
      refine VR.pure rfl rfl (p_assignI rfl) ?_
      refine VR.nil ?_
      repeat (first | refine VC.seq ?_ | refine VC.block ?_ | refine VC.skip ?_)
      refine VC.ret ⟨_, ResOf.r2 (v := .slice _ _ _) (u := .int _ _) rfl rfl rfl, ?_⟩
      exact ⟨none, 0, 0, [], rfl, OwnS.nil _ _, hm.nil_⟩
    · omega
/-- What comes of a step. -/
def Did (F : Env) (g : Nat) (room : Int) (Ls : List Blks) (r : Int × Da) (v : Value) (w' : World) : Prop := ∃ G rs', v = .int .i64 r.1 ∧ (absR rs').Perm r.2.fs ∧ AscN rs' ∧ F.under G ∧ RMem G w' g room rs' Ls
theorem rsync_c (hm : RMem F w g room rs Ls) (hl : rs.length ≤ 1000000) (hasc : AscN rs) :
    Calls Try.prog 57 #[.pointer (some ⟨g, 0, none⟩), .string s] w (Ret (Did F g room Ls (syncD ⟨room, absR rs⟩ s))) := by
  have hap := hasc.apart
  obtain ⟨A, c, L, ho, hok, hm⟩ := hm
  refine Calls.of_vc Try.func57 rfl Try.ntmps57 rfl ?_
  repeat (first | refine VC.seq ?_ | refine VC.block ?_ | refine VC.skip ?_)
  refine VC.region ?_
  refine VR.pure rfl rfl (p_assignI rfl) ?_
  refine VR.nil ?_
  repeat (first | refine VC.seq ?_ | refine VC.block ?_ | refine VC.skip ?_)
  refine VC.region ?_
  refine VR.pure rfl rfl (p_moveP rfl) ?_
  refine VR.pure rfl rfl (p_moveZ rfl) ?_
  refine VR.call rfl rfl (r_call2 Try.call63 rfl rfl) (rfind_c (rs := rs) hm.all (hm.plus_at 0 0 rfl) (ho.row (hm.plus_i 1 rfl)) hl) ?_
  rintro _ w ⟨z, rfl, hat, hm'⟩
  replace hm := hm.back0 hm'
  refine VR.pure rfl rfl (p_assignI rfl) ?_
  refine VR.nil ?_
  repeat (first | refine VC.seq ?_ | refine VC.block ?_ | refine VC.skip ?_)
  refine VC.region ?_
  refine VR.pure rfl rfl (p_moveI rfl) ?_
  refine VR.pure rfl rfl (p_lt rfl rfl) ?_
  refine VR.nil ?_
  rcases hat.inA hap with ⟨i, f, hi, hf, rfl, hin, hi', hia⟩ | ⟨hno, rfl, hin⟩
  · have hsy : syncD ⟨room, absR rs⟩ s = (0, ⟨room, updA (absR rs) s fun f => (f.1, f.2.1, (f.2.1.length : Int))⟩) := by
      unfold syncD
      rw [hin]
    rw [hsy]
    repeat (first | refine VC.seq ?_ | refine VC.block ?_ | refine VC.skip ?_)
    refine VC.condD rfl (fun h2 => ?_) (fun h2 => ?_)
    · omega
    · obtain ⟨gl, cur, rfl, rfl⟩ := ho.lit hi'
      obtain ⟨hcell, hsz⟩ := ho.cell hi
      repeat (first | refine VC.seq ?_ | refine VC.block ?_ | refine VC.skip ?_)
      refine VC.free (Kept F ([(g, rdisk room rs (some ⟨gl, 0, none⟩) c)] :: [])) [12, 16] rfl (by kernel_rfl) (Kept.one hm.drew 0 rfl) ?_
      replace hm := hm.drew
      refine VD.pure 0 rfl (by kernel_rfl) rfl rfl (p_moveP rfl) ?_
      refine VD.pure 1 rfl (by kernel_rfl) rfl rfl (p_nilCheck rfl) ?_
      refine VD.pure 2 rfl (by kernel_rfl) rfl rfl (p_field (fo := 1) Try.underlying109 rfl Try.sizeOf107 rfl rfl rfl) ?_
      refine VD.read 3 rfl (by kernel_rfl) rfl rfl (fun w' hw' => r_load (v := .slice _ _ _) Try.isAgg107 rfl (hw'.at_ 0 0 rfl) rfl) ?_
      refine VD.pure 4 rfl (by kernel_rfl) rfl rfl (p_moveI rfl) ?_
      refine VD.pure 5 rfl (by kernel_rfl) rfl rfl (p_moveP rfl) ?_
      refine VD.pure 6 rfl (by kernel_rfl) rfl rfl (p_nilCheck rfl) ?_
      refine VD.pure 7 rfl (by kernel_rfl) rfl rfl (p_field (fo := 1) Try.underlying109 rfl Try.sizeOf107 rfl rfl rfl) ?_
      refine VD.read 8 rfl (by kernel_rfl) rfl rfl (fun w' hw' => r_load (v := .slice _ _ _) Try.isAgg107 rfl (hw'.at_ 0 0 rfl) rfl) ?_
      refine VD.pure 9 rfl (by kernel_rfl) rfl rfl (p_moveI rfl) ?_
      refine VD.pure 10 rfl (by kernel_rfl) rfl rfl (p_idxN Try.underlying107 Try.sizeOf112 rfl rfl hi') ?_
      refine VD.pure 11 rfl (by kernel_rfl) rfl rfl (p_field (fo := 1) Try.underlying112 rfl Try.sizeOf22 rfl rfl rfl) ?_
      refine VD.turn1 12 (by kernel_rfl) ?_
      refine VDT.val rfl rfl rfl (r_load (v := .slice _ _ _) Try.isAgg22 rfl (hm.at_ 1 0 rfl) (hcell 1 (by decide))) (Kept.one hm 0 rfl) ?_
      refine VD.pure 13 rfl (by kernel_rfl) rfl rfl (p_len Try.underlying22 rfl) ?_
      refine VD.pure 14 rfl (by kernel_rfl) rfl rfl (p_idxN Try.underlying107 Try.sizeOf112 rfl rfl hi') ?_
      refine VD.pure 15 rfl (by kernel_rfl) rfl rfl (p_field (fo := 2) Try.underlying112 rfl Try.sizeOf3 rfl rfl rfl) ?_
      refine VD.turn1 16 (by kernel_rfl) ?_
      refine VDT.store (cs' := (cur.setIfInBounds (0 + i * 3 + 2) (.int .i64 f.n))) (v := .int _ _) Try.sizeOf3 rfl rfl rfl rfl rfl rfl hm 1 0 rfl (by omega) rfl (fun w' hm' => Kept.one hm' 0 rfl) ?_
      intro w hm
      refine VD.nil (by kernel_rfl) rfl ?_
      repeat (first | refine VC.seq ?_ | refine VC.block ?_ | refine VC.skip ?_)
      refine VC.region ?_
      refine VR.pure rfl rfl (p_assignI rfl) ?_
      refine VR.nil ?_
      repeat (first | refine VC.seq ?_ | refine VC.block ?_ | refine VC.skip ?_)
      refine VC.ret ⟨_, ResOf.r1 (v := .int _ _) rfl rfl, ?_⟩
      have hfo := hok f (List.mem_of_getElem? hi)
      refine ⟨F, rs.set i { f with sy := f.n }, rfl, List.Perm.of_eq ?_, hasc.set hi rfl, Env.under_refl _, some ⟨gl, 0, none⟩, c, [(gl, .cells (cur.setIfInBounds (0 + i * 3 + 2) (.int .i64 f.n)) 112 (0, 0))], ?_, fun x hx => ?_, ?_⟩
      · show (rs.set i _).map Rf.abs = updA (absR rs) s _
        rw [← hf, show f.name = f.abs.1 from rfl, updA_at hap hia, List.map_set]
        refine congrArg _ ?_
        show (f.name, f.l, (f.n : Int)) = (f.name, f.l, (f.l.length : Int))
        rw [hfo.len]
      · show OwnS _ 3 _ (rs.set i _).length c (rcells (rs.set i _)) _
        rw [List.length_set, ← rcells_put (j := 2) (v := .int .i64 f.n) hi (by decide) rfl]
        exact ho.put _
      · rcases List.mem_or_eq_of_mem_set hx with hx | rfl
        · exact hok x hx
        · exact ⟨hfo.row, hfo.le, by show (0 : Int) ≤ f.n ∧ (f.n : Int) ≤ f.n; omega⟩
      · unfold rdisk
        rw [List.length_set]
        exact hm
  · have hsy : syncD ⟨room, absR rs⟩ s = (6, ⟨room, absR rs⟩) := by
      unfold syncD
      rw [hin]
    rw [hsy]
    repeat (first | refine VC.seq ?_ | refine VC.block ?_ | refine VC.skip ?_)
    refine VC.condD rfl (fun h2 => ?_) (fun h2 => ?_)
    · repeat (first | refine VC.seq ?_ | refine VC.block ?_ | refine VC.skip ?_)
      refine VC.region ?_
      refine VR.pure rfl rfl (p_assignI rfl) ?_
      refine VR.nil ?_
      repeat (first | refine VC.seq ?_ | refine VC.block ?_ | refine VC.skip ?_)
      refine VC.ret ⟨_, ResOf.r1 (v := .int _ _) rfl rfl, ?_⟩
      exact ⟨F, rs, rfl, List.Perm.refl _, hasc, Env.under_refl _, A, c, L, ho, hok, hm⟩
    · omega
theorem rdrop_c {i : Nat} (hm : RMem F w g room rs Ls) (hl : rs.length ≤ 1000000) (hi : i < rs.length) :
    Calls Try.prog 94 #[.pointer (some ⟨g, 0, none⟩), .int .i64 i] w (Ret fun v w' => RMem F w' g room (rs.eraseIdx i) Ls) := by
  obtain ⟨A, c, L, ho, hok, hm⟩ := hm
  have hdel : rs.eraseIdx i = rs.take i ++ rs.drop (i + 1) := List.eraseIdx_eq_take_drop_succ rs i
  have hok' : ∀ x ∈ rs.eraseIdx i, RfOk F.heap x := fun x hx => hok x ((List.eraseIdx_sublist _ _).subset hx)
  rw [hdel] at hok' ⊢
  refine Calls.of_vc Try.func94 rfl Try.ntmps94 rfl ?_
  obtain ⟨G, hu, hm, hL⟩ := hm.swap.freeze
  have hr := ho.row hL
  have hc := ho.le
  have h1 : Row G.heap A (i * 3) (rcells (rs.take i)) := by
    have h := hr.take (k := i * 3) (Nat.mul_le_mul_right 3 (by omega))
    have e : (rcells rs).take (i * 3) = rcells (rs.take i) := by
      conv => lhs; rw [← List.take_append_drop i rs]
      rw [rcells_app, List.take_left' (by rw [rcells_len, List.length_take, Nat.min_eq_left (by omega)])]
    rwa [e] at h
  obtain ⟨A2, hA2, hr2⟩ := hr.dropE (l := i + 1) (c := c) (by omega) hc.1
  have hr2' : Row G.heap A2 ((rs.length - (i + 1)) * 3) (rcells (rs.drop (i + 1))) := by
    have e : (rcells rs).drop ((i + 1) * 3) = rcells (rs.drop (i + 1)) := by
      conv => lhs; rw [← List.take_append_drop (i + 1) rs]
      rw [rcells_app, List.drop_left' (by rw [rcells_len, List.length_take, Nat.min_eq_left (by omega)])]
    rwa [e] at hr2
  have hlt : (rs.take i).length = i := by rw [List.length_take]; omega
  have hld : (rs.drop (i + 1)).length = rs.length - (i + 1) := List.length_drop
  repeat (first | refine VC.seq ?_ | refine VC.block ?_ | refine VC.skip ?_)
  refine VC.region ?_
  refine VR.pure rfl rfl (p_assignL rfl) ?_
  refine VR.nil ?_
  repeat (first | refine VC.seq ?_ | refine VC.block ?_ | refine VC.skip ?_)
  refine VC.region ?_
  refine VR.pure rfl rfl (p_moveL rfl) ?_
  refine VR.pure rfl rfl (p_moveP rfl) ?_
  refine VR.pure rfl rfl (p_nilCheck rfl) ?_
  refine VR.pure rfl rfl (p_field (fo := 1) Try.underlying109 rfl Try.sizeOf107 rfl rfl rfl) ?_
  refine VR.val rfl rfl (r_load (v := .slice _ _ _) Try.isAgg107 rfl (hm.at_ 0 0 rfl) rfl) ?_
  refine VR.pure rfl rfl (p_moveI rfl) ?_
  refine VR.pure rfl rfl (p_sliceHN (h := i) Try.underlying107 Try.sizeOf112 rfl rfl (by omega)) ?_
  replace hm := hm.nil_
  refine VR.append (s := 3) (bytes := 48) Try.underlying107 inf112 rfl rfl rfl rfl rfl rfl rfl rfl rfl hm (OwnS.nil _ _) (h1.mono hm.fix) (rcells_one _) (Nat.zero_add i) ⟨by unfold maxLen; omega, by omega⟩ ?_
  intro A7 c7 w L7 ho7 hm
  refine VR.pure rfl rfl (p_assignL rfl) ?_
  refine VR.nil ?_
  repeat (first | refine VC.seq ?_ | refine VC.block ?_ | refine VC.skip ?_)
  refine VC.region ?_
  refine VR.pure rfl rfl (p_moveP rfl) ?_
  refine VR.pure rfl rfl (p_moveL rfl) ?_
  refine VR.pure rfl rfl (p_moveP rfl) ?_
  refine VR.pure rfl rfl (p_nilCheck rfl) ?_
  refine VR.pure rfl rfl (p_field (fo := 1) Try.underlying109 rfl Try.sizeOf107 rfl rfl rfl) ?_
  refine VR.val rfl rfl (r_load (v := .slice _ _ _) Try.isAgg107 rfl (hm.at_ 1 0 rfl) rfl) ?_
  refine VR.pure rfl rfl (p_moveI rfl) ?_
  refine VR.pure rfl rfl (p_add64E (r := ((i + 1 : Nat) : Int)) rfl rfl (by omega) (by omega)) ?_
  refine VR.pure rfl rfl (p_sliceLE Try.underlying107 Try.sizeOf112 rfl rfl (by omega) hA2 rfl rfl) ?_
  refine VR.append (s := 3) (bytes := 48) Try.underlying107 inf112 rfl rfl rfl rfl rfl rfl rfl rfl rfl hm ho7 (hr2'.mono hm.fix) (rcells_one _) rfl ⟨by unfold maxLen; omega, by omega⟩ ?_
  intro A9 c9 w L9 ho9 hm
  refine VR.pure rfl rfl (p_nilCheck rfl) ?_
  refine VR.pure rfl rfl (p_field (fo := 1) Try.underlying109 rfl Try.sizeOf107 rfl rfl rfl) ?_
  refine VR.store (cs' := #[.int .i64 room, .slice A9 (i + (rs.length - (i + 1))) c9]) (v := .slice _ _ _) Try.sizeOf107 rfl rfl rfl rfl rfl hm 1 0 rfl (Nat.ble_eq.mp rfl) rfl ?_
  intro w hm
  refine VR.nil ?_
  have hlen : (rs.take i ++ rs.drop (i + 1)).length = i + (rs.length - (i + 1)) := by rw [List.length_append, hlt, hld]
  refine ⟨_, ResOf.r0 rfl, A9, c9, L9, ?_, hok', ?_⟩
  · show OwnS _ 3 A9 (rs.take i ++ rs.drop (i + 1)).length c9 (rcells (rs.take i ++ rs.drop (i + 1))) L9
    rw [hlen, rcells_app]
    exact ho9
  · unfold rdisk
    rw [hlen]
    exact hm.swap.shrink hu
end
end Go.Bd
