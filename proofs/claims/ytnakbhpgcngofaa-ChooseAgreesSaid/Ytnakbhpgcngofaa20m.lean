/- Contracts of layer 20: lists of configs lent, kept, written over. Conditions: as each states. -/
import Derived.Test.Ytnakbhpgcngofaa20l
namespace Go.Bd
open Go.Proofs
set_option linter.unusedVariables false
set_option maxRecDepth 20000

theorem OwnO.elem {X : Type} {g : X → List Value} {s : Nat} {e : TypeId} (hg : ∀ x, (g x).length = s) {A : Option Addr} {n c : Nat} {ws : List X} {L : Blks} (ho : OwnO e s A n c (ws.flatMap g) L) (hs : 0 < s) (hn : 0 < n) :
    ∃ b off cur, A = some ⟨b, off, none⟩ ∧ L = [(b, .cells cur e (0, 0))] ∧ ∀ i x, ws[i]? = some x → ∀ j, j < s → cur[off + i * s + j]? = (g x)[j]? := by
  rcases ho.2 with ⟨_, rfl, _, _⟩ | ⟨b, off, cur, rfl, rfl, _, _, _, ht⟩
  · omega
  · refine ⟨b, off, cur, rfl, rfl, fun i x hx j hj => ?_⟩
    have hi : i < ws.length := (List.getElem?_eq_some_iff.1 hx).1
    have hl := ho.1
    rw [flat_len hg] at hl
    have hlt : i * s + j < n * s := by
      rw [← hl]
      have : (i + 1) * s ≤ ws.length * s := Nat.mul_le_mul_right s hi
      rw [Nat.add_mul] at this
      omega
    rw [Nat.add_assoc, ← flat_at hg hx hj, ← ht, List.getElem?_take, if_pos hlt, List.getElem?_drop, Array.getElem?_toList]

def marksE (n : Nat) : List En := (List.range n).map fun i : Nat => mke 1 i
theorem marksE_len (n : Nat) : (marksE n).length = n := by simp [marksE]
theorem marksE_succ (n : Nat) : marksE (n + 1) = marksE n ++ [mke 1 n] := by simp [marksE, List.range_succ]
theorem marksE_at {n i : Nat} (h : i < n) : (marksE n)[i]? = some (mke 1 i) := by simp [marksE, h]
theorem ecells_app (a b : List En) : ecells (a ++ b) = ecells a ++ ecells b := by
  show (a ++ b).flatMap En.cells = a.flatMap En.cells ++ b.flatMap En.cells
  rw [List.flatMap_append]
/-- Configs that were lent, one by one. -/
inductive Lents : List En → List En → List Blks → Prop
  | nil : Lents [] [] []
  | snoc {es os bs e o L} : Lents es os bs → LentE e o L → Lents (es ++ [e]) (os ++ [o]) (bs ++ [L])
theorem get_app {α : Type} {xs : List α} {i : Nat} {x : α} (h : xs[i]? = some x) (l : List α) : (xs ++ l)[i]? = some x := by
  rw [List.getElem?_append_left (List.getElem?_eq_some_iff.1 h).1]
  exact h
theorem Lents.len {es os : List En} {bs : List Blks} (h : Lents es os bs) : os.length = es.length ∧ bs.length = es.length := by
  induction h with
  | nil => exact ⟨rfl, rfl⟩
  | snoc h _ ih => simp only [List.length_append, List.length_singleton]; omega
theorem Lents.get {es os : List En} {bs : List Blks} (h : Lents es os bs) {k : Nat} {e : En} (he : es[k]? = some e) : ∃ o L, os[k]? = some o ∧ bs[k]? = some L ∧ LentE e o L := by
  induction h with
  | nil => simp at he
  | @snoc es os bs e' o' L' h hl ih =>
    have hlen := h.len
    by_cases hk : k < es.length
    · rw [List.getElem?_append_left hk] at he
      obtain ⟨o, L, h1, h2, h3⟩ := ih he
      exact ⟨o, L, get_app h1 _, get_app h2 _, h3⟩
    · rw [List.getElem?_append_right (by omega)] at he
      have hk0 : k - es.length = 0 := by
        have := (List.getElem?_eq_some_iff.1 he).1
        simp at this
        omega
      rw [hk0] at he
      obtain rfl := Option.some.inj (show some e' = some e from he)
      refine ⟨o', L', ?_, ?_, hl⟩
      · rw [List.getElem?_append_right (by omega), hlen.1, hk0]; rfl
      · rw [List.getElem?_append_right (by omega), hlen.2, hk0]; rfl
theorem Lents.abs {es os : List En} {bs : List Blks} (h : Lents es os bs) : os.map En.abs = es.map En.abs := by
  induction h with
  | nil => rfl
  | snoc h hl ih =>
    rw [List.map_append, List.map_append, ih]
    congr 1
    show [En.abs _] = [En.abs _]
    unfold En.abs
    rw [hl.ver, hl.ms]
theorem Lents.ok {es os : List En} {bs : List Blks} (h : Lents es os bs) {H : Nat → Option Obj} (hH : ∀ L ∈ bs, ∀ p ∈ L, H p.1 = some p.2) (hms : ∀ e ∈ es, e.ms.length = e.n) : ∀ o ∈ os, EnOk H o ∧ ∃ e ∈ es, o.n = e.n := by
  induction h with
  | nil => intro o ho; simp at ho
  | snoc h hl ih =>
    intro o ho
    rcases List.mem_append.1 ho with ho | ho
    · obtain ⟨h1, e, h2, h3⟩ := ih (fun L hL => hH L (by simp [hL])) (fun e he => hms e (by simp [he])) o ho
      exact ⟨h1, e, by simp [h2], h3⟩
    · simp only [List.mem_singleton] at ho
      subst ho
      have hle := hl.own.le
      have hlen := hms _ (List.mem_append_right _ (.head _))
      refine ⟨⟨(hl.row (hH _ (by simp))).left (by rw [hl.ms, hl.n]; exact hlen), by omega, hle.2⟩, _, List.mem_append_right _ (.head _), hl.n⟩
theorem snoc_perm (L : Blks) (bs R : List Blks) : (L :: (bs ++ R)).flatten.Perm ((bs ++ [L]) ++ R).flatten := by
  simp only [List.flatten_cons, List.flatten_append, List.flatten_nil, List.append_nil]
  rw [← List.append_assoc]
  exact (List.perm_append_comm).append_right _

set_option maxHeartbeats 2000000 in
theorem lentEs_c {F : Env} {w : World} {Ls : List Blks} {A : Option Addr} {n c : Nat} {es : List En} (hm : Mem F w Ls) (hn : n ≤ 100000) (hr : ERow F.heap A n es) (hsm : ∀ e ∈ es, e.n * 32 ≤ 140737488355328) :
    Calls Try.prog 8 #[.slice A n c] w (Ret fun v w' => ∃ A' c' os bs L, v = .slice A' n c' ∧ OwnS 42 2 A' (n + 12) c' (ecells (os ++ marksE 12)) L ∧ Lents es os bs ∧ Mem F w' (L :: (bs ++ Ls))) := by
  have hl := hr.len
  refine Calls.of_vc Try.func8 rfl Try.ntmps8 rfl ?_
  repeat (first | refine VC.seq ?_ | refine VC.block ?_ | refine VC.skip ?_)
  refine VC.region ?_
  refine VR.pure rfl rfl (p_assignL rfl) ?_
  refine VR.nil ?_
  repeat (first | refine VC.seq ?_ | refine VC.block ?_ | refine VC.skip ?_)
  refine VC.region ?_
  refine VR.pure rfl rfl (p_moveL rfl) ?_
  refine VR.pure rfl rfl (p_len Try.underlying23 rfl) ?_
  refine VR.pure rfl rfl (p_add64E (r := ((n + 12 : Nat) : Int)) rfl rfl (by omega) (by omega)) ?_
  refine VR.new hm rfl rfl (n_makeSlice (s := 2) (bytes := 32) Try.underlying23 inf42 rfl rfl rfl rfl rfl (by omega) (by omega)) ?_
  intro g3 w hm
  refine VR.pure rfl rfl (p_assignL rfl) ?_
  refine VR.nil ?_
  repeat (first | refine VC.seq ?_ | refine VC.block ?_ | refine VC.skip ?_)
  refine VC.region ?_
  refine VR.pure rfl rfl (p_assignI rfl) ?_
  refine VR.nil ?_
  repeat (first | refine VC.seq ?_ | refine VC.block ?_ | refine VC.skip ?_)
  refine VC.loop (σ := Nat × Array Value × List En × List Blks) (fun s => [(0, .slice A n c), (3, .slice (some ⟨g3, 0, none⟩) s.1 (n + 12)), (4, .int .i64 s.1)])
    (fun s w => s.1 ≤ n ∧ OwnS 42 2 (some ⟨g3, 0, none⟩) s.1 (n + 12) (ecells s.2.2.1) [(g3, .cells s.2.1 42 (0, 0))] ∧ Lents (es.take s.1) s.2.2.1 s.2.2.2 ∧ Mem F w ([(g3, .cells s.2.1 42 (0, 0))] :: (s.2.2.2 ++ Ls))) (fun s => n - s.1)
    (0, _, [], []) ⟨rfl, rfl, rfl, trivial⟩ ⟨by omega, OwnS.made (c := (n + 12 : Nat)) (by unfold maxLen; omega) (size_madeCells _ _), .nil, hm⟩ ?_
  clear hm
  rintro ⟨k, cur, os, bs⟩ A1 w ⟨hk, ho, hls, hm⟩
  dsimp only at hk ho hls hm ⊢
  repeat (first | refine VC.seq ?_ | refine VC.block ?_ | refine VC.skip ?_)
  refine VC.region ?_
  refine VR.pure rfl rfl (p_moveI rfl) ?_
  refine VR.pure rfl rfl (p_moveL rfl) ?_
  refine VR.pure rfl rfl (p_len Try.underlying23 rfl) ?_
  refine VR.pure rfl rfl (p_lt rfl rfl) ?_
  refine VR.nil ?_
  repeat (first | refine VC.seq ?_ | refine VC.block ?_ | refine VC.skip ?_)
  refine VC.condD rfl (fun h => ?_) (fun h => ?_)
  · have hk' : k < n := by omega
    obtain ⟨e, he, hem⟩ := get_of (xs := es) (k := k) (by omega)
    have hen := hsm e hem
    obtain ⟨b, off, blk, T, fr, hA, hb, hc⟩ := hr.row.elem En.len (by decide) (by omega)
    rw [hA]
    repeat (first | refine VC.seq ?_ | refine VC.block ?_ | refine VC.skip ?_)
    repeat (first | refine VC.seq ?_ | refine VC.block ?_ | refine VC.skip ?_)
    refine VC.region ?_
    refine VR.pure rfl rfl (p_moveL rfl) ?_
    refine VR.pure rfl rfl (p_moveI rfl) ?_
    refine VR.pure rfl rfl (p_idxN Try.underlying23 Try.sizeOf42 rfl rfl hk') ?_
    refine VR.val rfl rfl (r_loadAgg (vs := [.int _ _, .slice _ _ _]) Try.isAgg42 Try.sizeOf42 rfl (hm.fix _ _ hb) rfl (hc k e he)) ?_
    refine VR.call rfl rfl (r_call1 Try.call28 rfl) (lentE_c hm hen (hr.each e hem).1) ?_
    rintro _ w ⟨o, L', rfl, hlo, hm⟩
    refine VR.new hm rfl rfl (n_allocG Try.zeroValue42) ?_
    intro b5 w hm
    refine VR.store (cs' := #[.int .i64 o.ver, .slice o.A o.n o.c]) (v := .agg _) Try.sizeOf42 rfl rfl rfl rfl rfl hm 0 0 rfl (Nat.ble_eq.mp rfl) rfl ?_
    intro w hm
    refine VR.nil ?_
    repeat (first | refine VC.seq ?_ | refine VC.block ?_ | refine VC.skip ?_)
    refine VC.region ?_
    refine VR.pure rfl rfl (p_moveL rfl) ?_
    refine VR.val rfl rfl (r_loadAgg (vs := [.int _ _, .slice _ _ _]) Try.isAgg42 Try.sizeOf42 rfl (hm.at_ 0 0 rfl) rfl (agg_at rfl)) ?_
    refine VR.new hm rfl rfl (n_buildSlice (vs := [.agg _]) Try.underlying23 inf42 rfl rfl rfl rfl rfl rfl) ?_
    intro b6 w hm
    replace hm := hm.pull 3 rfl
    refine VR.appendI (s := 2) Try.underlying23 inf42 rfl rfl rfl rfl rfl rfl hm ho (Row.lit (cs := o.cells) (hm.at_ 1 0 rfl)) (ecells_one [o]) rfl (by omega) ?_
    intro cur' w ho' hm
    refine VR.pure rfl rfl (p_assignL rfl) ?_
    refine VR.nil ?_
    repeat (first | refine VC.seq ?_ | refine VC.block ?_ | refine VC.skip ?_)
    refine VC.region ?_
    refine VR.pure rfl rfl (p_moveI rfl) ?_
    refine VR.pure rfl rfl (p_add64 rfl rfl (by omega)) ?_
    refine VR.pure rfl rfl (p_assignI rfl) ?_
    refine VR.nil ?_
    refine ⟨(k + 1, cur', os ++ [o], bs ++ [L']), ⟨rfl, rfl, rfl, trivial⟩, ⟨by omega, by rw [ecells_app]; exact ho', ?_, ?_⟩, by omega⟩
    · have e2 : es.take (k + 1) = es.take k ++ [e] := by rw [List.take_add_one, he]; rfl
      rw [e2]
      exact .snoc hls hlo
    · have h1 : Mem F w ([(g3, .cells cur' 42 (0, 0))] :: L' :: (bs ++ Ls)) := ((hm.pull 1 rfl).pop.pull 1 rfl).pop
      exact h1.permF (by
        simp only [List.flatten_cons]
        refine (List.Perm.refl _).append ?_
        have := snoc_perm L' bs Ls
        simpa only [List.flatten_cons] using this)
  · repeat (first | refine VC.seq ?_ | refine VC.block ?_ | refine VC.skip ?_)
    refine VC.exit ?_
    have hkn : k = n := by omega
    rw [hkn] at ho hls
    rw [List.take_of_length_le (by omega)] at hls
    rw [hkn]
    repeat (first | refine VC.seq ?_ | refine VC.block ?_ | refine VC.skip ?_)
    refine VC.region ?_
    refine VR.pure rfl rfl (p_assignI rfl) ?_
    refine VR.nil ?_
    repeat (first | refine VC.seq ?_ | refine VC.block ?_ | refine VC.skip ?_)
    refine VC.loop (σ := Nat × Array Value) (fun s => [(0, .slice A n c), (3, .slice (some ⟨g3, 0, none⟩) (n + s.1) (n + 12)), (6, .int .i64 s.1)])
      (fun s w => s.1 ≤ 12 ∧ OwnS 42 2 (some ⟨g3, 0, none⟩) (n + s.1) (n + 12) (ecells (os ++ marksE s.1)) [(g3, .cells s.2 42 (0, 0))] ∧ Mem F w ([(g3, .cells s.2 42 (0, 0))] :: (bs ++ Ls))) (fun s => 12 - s.1) (0, cur) ⟨rfl, rfl, rfl, trivial⟩ ⟨by omega, by simpa [marksE] using ho, hm⟩ ?_
    clear hm ho
    rintro ⟨j, cur3⟩ A2 w ⟨hj, ho, hm⟩
    dsimp only at hj ho hm ⊢
    repeat (first | refine VC.seq ?_ | refine VC.block ?_ | refine VC.skip ?_)
    refine VC.region ?_
    refine VR.pure rfl rfl (p_moveI rfl) ?_
    refine VR.pure rfl rfl (p_lt rfl rfl) ?_
    refine VR.nil ?_
    repeat (first | refine VC.seq ?_ | refine VC.block ?_ | refine VC.skip ?_)
    refine VC.condD rfl (fun h2 => ?_) (fun h2 => ?_)
    · repeat (first | refine VC.seq ?_ | refine VC.block ?_ | refine VC.skip ?_)
      repeat (first | refine VC.seq ?_ | refine VC.block ?_ | refine VC.skip ?_)
      refine VC.region ?_
      refine VR.pure rfl rfl (p_moveL rfl) ?_
      refine VR.pure rfl rfl (p_moveI rfl) ?_
      refine VR.call rfl rfl (r_call2 Try.call29 rfl rfl) (markEnsemble_c hm (by omega)) ?_
      rintro _ w ⟨rfl, hm⟩
      refine VR.new hm rfl rfl (n_buildSlice (vs := [.agg _]) Try.underlying23 inf42 rfl rfl rfl rfl rfl rfl) ?_
      intro g6 w hm
      replace hm := hm.swap
      refine VR.appendI (s := 2) Try.underlying23 inf42 rfl rfl rfl rfl rfl rfl hm ho (Row.lit (cs := (mke 1 j).cells) (hm.at_ 1 0 rfl)) (ecells_one [mke 1 j]) rfl (by omega) ?_
      intro cur4 w ho4 hm
      refine VR.pure rfl rfl (p_assignL rfl) ?_
      refine VR.nil ?_
      repeat (first | refine VC.seq ?_ | refine VC.block ?_ | refine VC.skip ?_)
      refine VC.region ?_
      refine VR.pure rfl rfl (p_moveI rfl) ?_
      refine VR.pure rfl rfl (p_add64 rfl rfl (by omega)) ?_
      refine VR.pure rfl rfl (p_assignI rfl) ?_
      refine VR.nil ?_
      refine ⟨(j + 1, cur4), ⟨rfl, rfl, rfl, trivial⟩, ⟨by omega, ?_, hm.pop2⟩, by omega⟩
      rw [marksE_succ, ← List.append_assoc, ecells_app]
      exact ho4
    · repeat (first | refine VC.seq ?_ | refine VC.block ?_ | refine VC.skip ?_)
      refine VC.exit ?_
      have hj12 : j = 12 := by omega
      rw [hj12] at ho ⊢
      repeat (first | refine VC.seq ?_ | refine VC.block ?_ | refine VC.skip ?_)
      refine VC.region ?_
      refine VR.pure rfl rfl (p_moveL rfl) ?_
      refine VR.pure rfl rfl (p_moveL rfl) ?_
      refine VR.pure rfl rfl (p_len Try.underlying23 rfl) ?_
      refine VR.pure rfl rfl (p_sliceHN Try.underlying23 Try.sizeOf42 rfl rfl (by omega)) ?_
      refine VR.pure rfl rfl (p_assignL rfl) ?_
      refine VR.nil ?_
      repeat (first | refine VC.seq ?_ | refine VC.block ?_ | refine VC.skip ?_)
      refine VC.ret ⟨_, ResOf.r1 (v := .slice _ _ _) rfl rfl, ?_⟩
      exact ⟨_, _, os, bs, _, rfl, ho, hls, hm⟩

theorem keptEs_c {F : Env} {w : World} {Ls : List Blks} {A B : Option Addr} {n c d : Nat} {es os : List En} {bs : List Blks} (hm : Mem F w Ls) (hn : n ≤ 100000) (hc : n + 12 ≤ c) (hr : Row F.heap A ((n + 12) * 2) (ecells (os ++ marksE 12))) (hls : Lents es os bs)
    (hbs : ∀ L ∈ bs, ∀ p ∈ L, F.heap p.1 = some p.2) (hs : ERow F.heap B n es) (hsm : ∀ e ∈ es, e.n * 32 ≤ 140737488355328) :
    Calls Try.prog 12 #[.slice A n c, .slice B n d] w (Ret fun v w' => v = .bool true ∧ Mem F w' Ls) := by
  have hl := hs.len
  have hlo := hls.len
  refine Calls.of_vc Try.func12 rfl Try.ntmps12 rfl ?_
  repeat (first | refine VC.seq ?_ | refine VC.block ?_ | refine VC.skip ?_)
  refine VC.region ?_
  refine VR.pure rfl rfl (p_assignB rfl) ?_
  refine VR.nil ?_
  repeat (first | refine VC.seq ?_ | refine VC.block ?_ | refine VC.skip ?_)
  refine VC.region ?_
  refine VR.pure rfl rfl (p_moveL rfl) ?_
  refine VR.pure rfl rfl (p_len Try.underlying23 rfl) ?_
  refine VR.pure rfl rfl (p_moveL rfl) ?_
  refine VR.pure rfl rfl (p_len Try.underlying23 rfl) ?_
  refine VR.pure rfl rfl (p_ne rfl rfl) ?_
  refine VR.nil ?_
  repeat (first | refine VC.seq ?_ | refine VC.block ?_ | refine VC.skip ?_)
  refine VC.condF rfl (decide_eq_false (not_not_intro rfl)) ?_
  repeat (first | refine VC.seq ?_ | refine VC.block ?_ | refine VC.skip ?_)
  refine VC.region ?_
  refine VR.pure rfl rfl (p_moveL rfl) ?_
  refine VR.pure rfl rfl (p_moveL rfl) ?_
  refine VR.pure rfl rfl (p_len Try.underlying23 rfl) ?_
  refine VR.pure rfl rfl (p_add64E (r := ((n + 12 : Nat) : Int)) rfl rfl (by omega) (by omega)) ?_
  refine VR.pure rfl rfl (p_sliceHN (h := n + 12) Try.underlying23 Try.sizeOf42 rfl rfl (by omega)) ?_
  refine VR.pure rfl rfl (p_assignL rfl) ?_
  refine VR.nil ?_
  repeat (first | refine VC.seq ?_ | refine VC.block ?_ | refine VC.skip ?_)
  refine VC.region ?_
  refine VR.pure rfl rfl (p_assignI rfl) ?_
  refine VR.nil ?_
  repeat (first | refine VC.seq ?_ | refine VC.block ?_ | refine VC.skip ?_)
  refine VC.loop (σ := Nat) (fun k => [(0, .slice A n c), (1, .slice B n d), (5, .slice A (n + 12) c), (6, .int .i64 k)]) (fun k w => Mem F w Ls ∧ k ≤ n + 12) (fun k => n + 12 - k) 0 ⟨rfl, rfl, rfl, rfl, trivial⟩ ⟨hm, by omega⟩ ?_
  clear hm
  rintro k A' w ⟨hm, hk⟩
  repeat (first | refine VC.seq ?_ | refine VC.block ?_ | refine VC.skip ?_)
  refine VC.region ?_
  refine VR.pure rfl rfl (p_moveI rfl) ?_
  refine VR.pure rfl rfl (p_moveL rfl) ?_
  refine VR.pure rfl rfl (p_len Try.underlying23 rfl) ?_
  refine VR.pure rfl rfl (p_lt rfl rfl) ?_
  refine VR.nil ?_
  repeat (first | refine VC.seq ?_ | refine VC.block ?_ | refine VC.skip ?_)
  refine VC.condD rfl (fun h => ?_) (fun h => ?_)
  · have hk' : k < n + 12 := by omega
    obtain ⟨b, off, blk, T, fr, hA, hb, hcc⟩ := Row.elem En.len hr (by decide) (by omega)
    rw [hA]
    by_cases h4 : k < n
    · obtain ⟨e, he, hem⟩ := get_of (xs := es) (k := k) (by omega)
      obtain ⟨o, L, ho, hL, hlo⟩ := hls.get he
      have hen := hsm e hem
      obtain ⟨b2, off2, blk2, T2, fr2, hB, hb2, hc2⟩ := hs.row.elem En.len (by decide) (by omega)
      rw [hB]
      have hLH := hbs L (List.mem_of_getElem? hL)
      repeat (first | refine VC.seq ?_ | refine VC.block ?_ | refine VC.skip ?_)
      refine VC.loud (Kept F []) [13, 30, 31] rfl (by kernel_rfl) (Kept.of0 hm.drew) ?_
      replace hm := hm.drew
      refine VL.pure rfl rfl rfl (p_moveI rfl) ?_
      refine VL.pure rfl rfl rfl (p_moveL rfl) ?_
      refine VL.pure rfl rfl rfl (p_len Try.underlying23 rfl) ?_
      refine VL.pure rfl rfl rfl (p_lt rfl rfl) ?_
      refine VL.pure rfl rfl rfl (p_moveB rfl) ?_
      refine VL.knownT 27 rfl (decide_eq_true (by omega)) ?_
      refine VL.pureG rfl rfl rfl (p_moveL rfl) ?_
      refine VL.pureG rfl rfl rfl (p_moveI rfl) ?_
      refine VL.pureG rfl rfl rfl (p_idxN Try.underlying23 Try.sizeOf42 rfl rfl hk') ?_
      refine VL.readG rfl rfl rfl (fun w' hw' => r_loadAgg (vs := [.int _ _, .slice _ _ _]) Try.isAgg42 Try.sizeOf42 rfl (hw'.fix _ _ hb) rfl (hcc k o (get_app ho _))) ?_
      refine VL.pureG rfl rfl rfl (p_moveL rfl) ?_
      refine VL.pureG rfl rfl rfl (p_moveI rfl) ?_
      refine VL.pureG rfl rfl rfl (p_idxN Try.underlying23 Try.sizeOf42 rfl rfl h4) ?_
      refine VL.readG rfl rfl rfl (fun w' hw' => r_loadAgg (vs := [.int _ _, .slice _ _ _]) Try.isAgg42 Try.sizeOf42 rfl (hw'.fix _ _ hb2) rfl (hc2 k e he)) ?_
      refine VL.callG rfl rfl rfl (r_call2 Try.call32 rfl rfl) (keptE_c hm hlo hLH (by omega) (hs.each e hem).1) ?_
      rintro _ w ⟨rfl, hm⟩
      refine ⟨Kept.of0 hm, ?_⟩
      refine VL.pureG rfl rfl rfl (p_not rfl) ?_
      refine VL.pure rfl rfl rfl (p_pickT rfl rfl) ?_
      refine VL.pure rfl rfl rfl (p_moveB rfl) ?_
      refine VL.knownF 39 rfl rfl ?_
      refine VL.pureG rfl rfl rfl (p_moveI rfl) ?_
      refine VL.pureG rfl rfl rfl (p_moveL rfl) ?_
      refine VL.pureG rfl rfl rfl (p_len Try.underlying23 rfl) ?_
      refine VL.pureG rfl rfl rfl (p_ge rfl rfl) ?_
      refine VL.pureG rfl rfl rfl (p_moveB rfl) ?_
      refine VL.knownF 44 rfl (decide_eq_false (by omega)) ?_
      refine VL.pass rfl rfl ?_
      refine VL.pass rfl rfl ?_
      refine VL.pass rfl rfl ?_
      refine VL.pass rfl rfl ?_
      refine VL.pass rfl rfl ?_
      refine VL.pass rfl rfl ?_
      refine VL.pass rfl rfl ?_
      refine VL.pass rfl rfl ?_
      refine VL.pass rfl rfl ?_
      refine VL.pass rfl rfl ?_
      refine VL.pass rfl rfl ?_
      refine VL.pureG rfl rfl rfl (p_pickF rfl rfl) ?_
      refine VL.pure rfl rfl rfl (p_pickF rfl rfl) ?_
      refine VL.nil ?_
      repeat (first | refine VC.seq ?_ | refine VC.block ?_ | refine VC.skip ?_)
      refine VC.condF rfl rfl ?_
      repeat (first | refine VC.seq ?_ | refine VC.block ?_ | refine VC.skip ?_)
      repeat (first | refine VC.seq ?_ | refine VC.block ?_ | refine VC.skip ?_)
      refine VC.region ?_
      refine VR.pure rfl rfl (p_moveI rfl) ?_
      refine VR.pure rfl rfl (p_add64 rfl rfl (by omega)) ?_
      refine VR.pure rfl rfl (p_assignI rfl) ?_
      refine VR.nil ?_
      exact ⟨k + 1, ⟨rfl, rfl, rfl, rfl, trivial⟩, ⟨hm, by omega⟩, by omega⟩
    · have hz : (os ++ marksE 12)[k]? = some (mke 1 (k - n)) := by
        rw [List.getElem?_append_right (by omega), hlo.1, hl, marksE_at (by omega)]
      have hz2 : (mke 1 (k - n)).abs = (⟨1000003 * (1 + 7) + ((k : Int) - n), none, 0, 0, []⟩ : En).abs := by
        unfold mke mark1 En.abs
        simp only
        congr 1
        omega
      repeat (first | refine VC.seq ?_ | refine VC.block ?_ | refine VC.skip ?_)
      refine VC.loud (Kept F []) [13, 30, 31] rfl (by kernel_rfl) (Kept.of0 hm.drew) ?_
      replace hm := hm.drew
      refine VL.pure rfl rfl rfl (p_moveI rfl) ?_
      refine VL.pure rfl rfl rfl (p_moveL rfl) ?_
      refine VL.pure rfl rfl rfl (p_len Try.underlying23 rfl) ?_
      refine VL.pure rfl rfl rfl (p_lt rfl rfl) ?_
      refine VL.pure rfl rfl rfl (p_moveB rfl) ?_
      refine VL.knownF 27 rfl (decide_eq_false (by omega)) ?_
      refine VL.pass rfl rfl ?_
      refine VL.pass rfl rfl ?_
      refine VL.pass rfl rfl ?_
      refine VL.pass rfl rfl ?_
      refine VL.pass rfl rfl ?_
      refine VL.pass rfl rfl ?_
      refine VL.pass rfl rfl ?_
      refine VL.pass rfl rfl ?_
      refine VL.pass rfl rfl ?_
      refine VL.pass rfl rfl ?_
      refine VL.pure rfl rfl rfl (p_pickF rfl rfl) ?_
      refine VL.pure rfl rfl rfl (p_moveB rfl) ?_
      refine VL.pureG rfl rfl rfl (p_moveI rfl) ?_
      refine VL.pureG rfl rfl rfl (p_moveL rfl) ?_
      refine VL.pureG rfl rfl rfl (p_len Try.underlying23 rfl) ?_
      refine VL.pureG rfl rfl rfl (p_ge rfl rfl) ?_
      refine VL.pureG rfl rfl rfl (p_moveB rfl) ?_
      refine VL.knownT 44 rfl (decide_eq_true (by omega)) ?_
      refine VL.pureG rfl rfl rfl (p_moveL rfl) ?_
      refine VL.pureG rfl rfl rfl (p_moveI rfl) ?_
      refine VL.pureG rfl rfl rfl (p_idxN Try.underlying23 Try.sizeOf42 rfl rfl hk') ?_
      refine VL.readG rfl rfl rfl (fun w' hw' => r_loadAgg (vs := [.int _ _, .slice _ _ _]) Try.isAgg42 Try.sizeOf42 rfl (hw'.fix _ _ hb) rfl (hcc k _ hz)) ?_
      refine VL.pureG rfl rfl rfl (p_moveI rfl) ?_
      refine VL.pureG rfl rfl rfl (p_moveL rfl) ?_
      refine VL.pureG rfl rfl rfl (p_len Try.underlying23 rfl) ?_
      refine VL.pureG rfl rfl rfl (p_sub64 rfl rfl (by omega)) ?_
      refine VL.callG rfl rfl rfl (r_call2 Try.call29 rfl rfl) (markEnsemble_c hm (by omega)) ?_
      rintro _ w ⟨rfl, hm⟩
      refine ⟨Kept.of0 hm, ?_⟩
      refine VL.callG rfl rfl rfl (r_call2 Try.call33 rfl rfl) (same_ensemble_c (e := mke 1 (k - n)) (e' := ⟨1000003 * (1 + 7) + ((k : Int) - n), none, 0, 0, []⟩) hm (Nat.zero_le _) (Row.nil _) (Row.nil _)) ?_
      rintro _ w ⟨rfl, hm⟩
      refine ⟨Kept.of0 hm, ?_⟩
      refine VL.pureG rfl rfl rfl (p_notD rfl) ?_
      refine VL.pureG rfl rfl rfl (p_pickT rfl rfl) ?_
      refine VL.pure rfl rfl rfl (p_pickF rfl rfl) ?_
      refine VL.nil ?_
      repeat (first | refine VC.seq ?_ | refine VC.block ?_ | refine VC.skip ?_)
      refine VC.condF rfl (decide_eq_false (not_not_intro hz2)) ?_
      repeat (first | refine VC.seq ?_ | refine VC.block ?_ | refine VC.skip ?_)
      repeat (first | refine VC.seq ?_ | refine VC.block ?_ | refine VC.skip ?_)
      refine VC.region ?_
      refine VR.pure rfl rfl (p_moveI rfl) ?_
      refine VR.pure rfl rfl (p_add64 rfl rfl (by omega)) ?_
      refine VR.pure rfl rfl (p_assignI rfl) ?_
      refine VR.nil ?_
      exact ⟨k + 1, ⟨rfl, rfl, rfl, rfl, trivial⟩, ⟨hm, by omega⟩, by omega⟩
  · repeat (first | refine VC.seq ?_ | refine VC.block ?_ | refine VC.skip ?_)
    refine VC.exit ?_
    repeat (first | refine VC.seq ?_ | refine VC.block ?_ | refine VC.skip ?_)
    refine VC.region ?_
    refine VR.pure rfl rfl (p_assignB rfl) ?_
    refine VR.nil ?_
    repeat (first | refine VC.seq ?_ | refine VC.block ?_ | refine VC.skip ?_)
    refine VC.ret ⟨_, ResOf.r1 (v := .bool _) rfl rfl, ?_⟩
    exact ⟨rfl, hm⟩

theorem overEs_c {F : Env} {w : World} {Ls : List Blks} {A : Option Addr} {n c : Nat} {es os : List En} {bs : List Blks} {L : Blks} (hm : Mem F w (L :: (bs ++ Ls))) (hn : n ≤ 100000) (ho : OwnS 42 2 A (n + 12) c (ecells (os ++ marksE 12)) L) (hls : Lents es os bs) (hen : es.length = n)
    (hsm : ∀ e ∈ es, e.n * 32 ≤ 140737488355328) :
    Calls Try.prog 13 #[.slice A n c] w (Ret fun v w' => Mem F w' Ls) := by
  have hle := ho.le
  have hlen := hls.len
  rcases ho.2 with ⟨_, h0, _⟩ | ⟨g, cur, rfl, rfl, h1, h2, h3, _⟩
  · omega
  have hat : ∀ i x, (os ++ marksE 12)[i]? = some x → ∀ j, j < 2 → cur[0 + i * 2 + j]? = x.cells[j]? := fun i x hx j hj => by
    obtain ⟨b, off, cur', e1, e2, hcc⟩ := ho.toO.elem En.len (by decide) (by omega)
    simp only [Option.some.injEq, Addr.mk.injEq] at e1
    obtain ⟨rfl, rfl, _⟩ := e1
    simp only [List.cons.injEq, Prod.mk.injEq, Obj.cells.injEq] at e2
    obtain rfl := e2.1.2.1
    exact hcc i x hx j hj
  refine Calls.of_vc Try.func13 rfl Try.ntmps13 rfl ?_
  repeat (first | refine VC.seq ?_ | refine VC.block ?_ | refine VC.skip ?_)
  refine VC.region ?_
  refine VR.pure rfl rfl (p_assignI rfl) ?_
  refine VR.nil ?_
  repeat (first | refine VC.seq ?_ | refine VC.block ?_ | refine VC.skip ?_)
  refine VC.loop (σ := Nat) (fun k => [(0, .slice (some ⟨g, 0, none⟩) n c), (2, .int .i64 k)]) (fun k w => k ≤ n ∧ Mem F w ([(g, .cells cur 42 (0, 0))] :: (bs.drop k ++ Ls))) (fun k => n - k) 0 ⟨rfl, rfl, trivial⟩ ⟨by omega, hm⟩ ?_
  clear hm
  rintro k A' w ⟨hk, hm⟩
  repeat (first | refine VC.seq ?_ | refine VC.block ?_ | refine VC.skip ?_)
  refine VC.region ?_
  refine VR.pure rfl rfl (p_moveI rfl) ?_
  refine VR.pure rfl rfl (p_moveL rfl) ?_
  refine VR.pure rfl rfl (p_len Try.underlying23 rfl) ?_
  refine VR.pure rfl rfl (p_lt rfl rfl) ?_
  refine VR.nil ?_
  repeat (first | refine VC.seq ?_ | refine VC.block ?_ | refine VC.skip ?_)
  refine VC.condD rfl (fun h => ?_) (fun h => ?_)
  · have hk' : k < n := by omega
    obtain ⟨e, he, hem⟩ := get_of (xs := es) (k := k) (by omega)
    obtain ⟨o, L, hoo, hL, hlo⟩ := hls.get he
    have hno := hlo.n
    have hen2 := hsm e hem
    have hd : bs.drop k = L :: bs.drop (k + 1) := by
      obtain ⟨hlt, hx⟩ := List.getElem?_eq_some_iff.1 hL
      rw [List.drop_eq_getElem_cons hlt, hx]
    rw [hd] at hm
    repeat (first | refine VC.seq ?_ | refine VC.block ?_ | refine VC.skip ?_)
    repeat (first | refine VC.seq ?_ | refine VC.block ?_ | refine VC.skip ?_)
    refine VC.region ?_
    refine VR.pure rfl rfl (p_moveL rfl) ?_
    refine VR.pure rfl rfl (p_moveI rfl) ?_
    refine VR.pure rfl rfl (p_idxN Try.underlying23 Try.sizeOf42 rfl rfl hk') ?_
    refine VR.val rfl rfl (r_loadAgg (vs := [.int _ _, .slice _ _ _]) Try.isAgg42 Try.sizeOf42 rfl (hm.at_ 0 0 rfl) rfl (hat k o (get_app hoo _))) ?_
    replace hm := hm.swap
    refine VR.call rfl rfl (r_call1 Try.call34 rfl) (overE_c hm hlo (by omega)) ?_
    rintro v w hm
    refine VR.nil ?_
    repeat (first | refine VC.seq ?_ | refine VC.block ?_ | refine VC.skip ?_)
    refine VC.region ?_
    refine VR.pure rfl rfl (p_moveI rfl) ?_
    refine VR.pure rfl rfl (p_add64 rfl rfl (by omega)) ?_
    refine VR.pure rfl rfl (p_assignI rfl) ?_
    refine VR.nil ?_
    exact ⟨k + 1, ⟨rfl, rfl, trivial⟩, ⟨by omega, hm⟩, by omega⟩
  · repeat (first | refine VC.seq ?_ | refine VC.block ?_ | refine VC.skip ?_)
    refine VC.exit ?_
    have hkn : k = n := by omega
    have hdn : bs.drop k = [] := List.drop_eq_nil_of_le (by omega)
    rw [hdn] at hm
    repeat (first | refine VC.seq ?_ | refine VC.block ?_ | refine VC.skip ?_)
    refine VC.region ?_
    refine VR.pure rfl rfl (p_moveL rfl) ?_
    refine VR.pure rfl rfl (p_moveL rfl) ?_
    refine VR.pure rfl rfl (p_len Try.underlying23 rfl) ?_
    refine VR.pure rfl rfl (p_add64E (r := ((n + 12 : Nat) : Int)) rfl rfl (by omega) (by omega)) ?_
    refine VR.pure rfl rfl (p_sliceHN (h := n + 12) Try.underlying23 Try.sizeOf42 rfl rfl (by omega)) ?_
    refine VR.pure rfl rfl (p_assignL rfl) ?_
    refine VR.nil ?_
    repeat (first | refine VC.seq ?_ | refine VC.block ?_ | refine VC.skip ?_)
    refine VC.region ?_
    refine VR.pure rfl rfl (p_assignI rfl) ?_
    refine VR.nil ?_
    repeat (first | refine VC.seq ?_ | refine VC.block ?_ | refine VC.skip ?_)
    refine VC.loop (σ := Nat × Array Value) (fun s => [(3, .slice (some ⟨g, 0, none⟩) (n + 12) c), (4, .int .i64 s.1)])
      (fun s w => s.1 ≤ n + 12 ∧ s.2.size = c * 2 ∧ Mem F w ([(g, .cells s.2 42 (0, 0))] :: Ls)) (fun s => n + 12 - s.1) (0, cur) ⟨rfl, rfl, trivial⟩ ⟨by omega, h3, hm⟩ ?_
    clear hm
    rintro ⟨k, cur⟩ A' w ⟨hk, hs, hm⟩
    dsimp only at hk hs hm ⊢
    repeat (first | refine VC.seq ?_ | refine VC.block ?_ | refine VC.skip ?_)
    refine VC.region ?_
    refine VR.pure rfl rfl (p_moveI rfl) ?_
    refine VR.pure rfl rfl (p_moveL rfl) ?_
    refine VR.pure rfl rfl (p_len Try.underlying23 rfl) ?_
    refine VR.pure rfl rfl (p_lt rfl rfl) ?_
    refine VR.nil ?_
    repeat (first | refine VC.seq ?_ | refine VC.block ?_ | refine VC.skip ?_)
    refine VC.condD rfl (fun h => ?_) (fun h => ?_)
    · repeat (first | refine VC.seq ?_ | refine VC.block ?_ | refine VC.skip ?_)
      repeat (first | refine VC.seq ?_ | refine VC.block ?_ | refine VC.skip ?_)
      refine VC.region ?_
      refine VR.pure rfl rfl (p_moveL rfl) ?_
      refine VR.pure rfl rfl (p_moveI rfl) ?_
      refine VR.pure rfl rfl (p_moveI rfl) ?_
      refine VR.call rfl rfl (r_call2 Try.call29 rfl rfl) (markEnsemble_c hm (by omega)) ?_
      rintro _ w ⟨rfl, hm⟩
      refine VR.pure rfl rfl (p_idxN Try.underlying23 Try.sizeOf42 rfl rfl (by omega : k < n + 12)) ?_
      refine VR.store (cs' := (lay cur (0 + k * 2) [.int .i64 (1000003 * (2 + 7) + (k : Int)), .slice none 0 0])) (v := .agg _) Try.sizeOf42 rfl rfl rfl rfl rfl hm 0 0 rfl (by omega) rfl ?_
      intro w hm
      refine VR.nil ?_
      repeat (first | refine VC.seq ?_ | refine VC.block ?_ | refine VC.skip ?_)
      refine VC.region ?_
      refine VR.pure rfl rfl (p_moveI rfl) ?_
      refine VR.pure rfl rfl (p_add64 rfl rfl (by omega)) ?_
      refine VR.pure rfl rfl (p_assignI rfl) ?_
      refine VR.nil ?_
      exact ⟨(k + 1, lay cur (0 + k * 2) [.int .i64 (1000003 * (2 + 7) + (k : Int)), .slice none 0 0]), ⟨rfl, rfl, trivial⟩, ⟨by omega, by rw [lay_size]; exact hs, hm⟩, by omega⟩
    · repeat (first | refine VC.seq ?_ | refine VC.block ?_ | refine VC.skip ?_)
      refine VC.exit ?_
      repeat (first | refine VC.seq ?_ | refine VC.block ?_ | refine VC.skip ?_)
      exact ⟨_, ResOf.r0 rfl, hm.pop⟩
end Go.Bd
