/- Lists of texts that lie apart are found to lie apart. Conditions: as each states. -/
import Derived.Test.Ytjohjlhjeommiaa08fb
import Derived.Test.YtjohjlhjeommiaaApart
namespace Go.Bd
open Go.Proofs
set_option linter.unusedVariables false
set_option maxRecDepth 20000

def mkT (k : Nat) (i : Nat) : List Value := [.string (markT (k : Int) (i : Int))]
theorem mkT_len (k i : Nat) : (mkT k i).length = 1 := rfl
theorem mkT_one (k i : Nat) : ∀ u ∈ mkT k i, u.oneCell' = true := by simp [mkT, Value.oneCell']
theorem mmT_at {k n i : Nat} (hi : i < n) : (mm (mkT k) n)[i]? = some (.string (markT (k : Int) (i : Int))) := by
  have := mm_at (mkT_len k) hi (j := 0) (by decide)
  rw [Nat.mul_one, Nat.add_zero] at this
  exact this
/-- A slice that was grown by q, and the old one. -/
def GrT (k : Nat) (it g : Sl) (q : Nat) (L : Blks) : Prop :=
  g.n = it.n + q ∧ ((g.A = it.A ∧ g.c = it.c ∧ OwnS 9 1 it.A (it.n + q) it.c (mm (mkT k) (it.n + q)) L) ∨
    ∃ L1 L2, L = L2 ++ L1 ∧ OwnS 9 1 it.A it.n it.c (mm (mkT k) it.n) L1 ∧ OwnS 9 1 g.A (it.n + q) g.c (mm (mkT k) (it.n + q)) L2)
/-- Both can be read: the old one, and as much of the new one. -/
def FnT (k : Nat) (it g : Sl) (q : Nat) (L : Blks) : Prop := it.n ≤ g.n ∧ ∀ H : Nat → Option Obj, (∀ p ∈ L, H p.1 = some p.2) → Row H it.A it.n (mm (mkT k) it.n) ∧ Row H g.A (it.n + q) (mm (mkT k) (it.n + q))
theorem GrT.reads {k : Nat} {it g : Sl} {q : Nat} {L : Blks} (h : GrT k it g q L) : FnT k it g q L := by
  obtain ⟨h1, h2⟩ := h
  refine ⟨by omega, fun H hH => ?_⟩
  rcases h2 with ⟨hA, hc, ho⟩ | ⟨L1, L2, rfl, ho1, ho2⟩
  · refine ⟨?_, by rw [hA]; exact ho.row1 hH⟩
    have := ho.cut.row1 hH
    rwa [mm_take (mkT_len k)] at this
  · exact ⟨ho1.row1 fun p hp => hH p (List.mem_append_right _ hp), ho2.row1 fun p hp => hH p (List.mem_append_left _ hp)⟩

set_option maxHeartbeats 8000000 in
theorem flat_texts_c {F : Env} {w : World} {Ls Ms : List Blks} {O : Option Addr} {m d : Nat} {its : List Sl} (hm : Mem F w (Ms ++ Ls)) (hr : Row F.heap O m (slcells its)) (hmm : m ≤ 1000000000)
    (hall : All its Ms (fun _ (it : Sl) L => it.n ≤ 1000000000000 ∧ ∃ xs, OwnS 9 1 it.A it.n it.c xs L)) :
    Calls Try.prog 75 #[.slice O m d] w (Ret fun v w' => v = .bool true ∧ Mem F w' Ls) := by
  have hml : its.length = m := by have := hr.len; rwa [flat_len Sl.len, Nat.mul_one] at this
  have hsmall : ∀ (k : Nat) (it : Sl), its[k]? = some it → it.n ≤ 1000000000000 := fun k it hk => by
    obtain ⟨L, hL, h1, _⟩ := hall.get hk
    exact h1
  refine Calls.of_vc Try.func75 rfl Try.ntmps75 rfl ?_
  repeat (first | refine VC.seq ?_ | refine VC.block ?_ | refine VC.skip ?_)
  refine VC.region ?_
  refine VR.pure rfl rfl (p_assignB rfl) ?_
  refine VR.nil ?_
  repeat (first | refine VC.seq ?_ | refine VC.block ?_ | refine VC.skip ?_)
  refine VC.region ?_
  refine VR.pure rfl rfl (p_assignI rfl) ?_
  refine VR.nil ?_
  repeat (first | refine VC.seq ?_ | refine VC.block ?_ | refine VC.skip ?_)
  refine VC.loop (σ := Nat × List Blks) (fun s => [(0, .slice O m d), (3, .int .i64 s.1)])
    (fun s w => s.1 ≤ m ∧ Mem F w (s.2 ++ Ls) ∧ All its s.2 (fun j (it : Sl) L => if j < s.1 then OwnS 9 1 it.A it.n it.c (mm (mkT j) it.n) L else ∃ xs, OwnS 9 1 it.A it.n it.c xs L)) (fun s => m - s.1) (0, Ms) ⟨rfl, rfl, trivial⟩
    ⟨by omega, hm, hall.imp fun j it L _ h => by rw [if_neg (by omega)]; exact h.2⟩ ?_
  clear hm hall
  rintro ⟨k, Ms⟩ A' w ⟨hk, hm, hall⟩
  dsimp only at hk hm hall ⊢
  repeat (first | refine VC.seq ?_ | refine VC.block ?_ | refine VC.skip ?_)
  refine VC.region ?_
  refine VR.pure rfl rfl (p_moveI rfl) ?_
  refine VR.pure rfl rfl (p_moveL rfl) ?_
  refine VR.pure rfl rfl (p_len Try.underlying48 rfl) ?_
  refine VR.pure rfl rfl (p_lt rfl rfl) ?_
  refine VR.nil ?_
  repeat (first | refine VC.seq ?_ | refine VC.block ?_ | refine VC.skip ?_)
  refine VC.condD rfl (fun h => ?_) (fun h => ?_)
  · have hk' : k < m := by omega
    obtain ⟨it, hit, _⟩ := get_of (xs := its) (k := k) (by omega)
    have hsm := hsmall k it hit
    obtain ⟨L, hL, hLo⟩ := hall.get hit
    rw [if_neg (by omega)] at hLo
    obtain ⟨xs, ho⟩ := hLo
    obtain ⟨b, off, blk, T, fr, rfl, hb, hc⟩ := Row.get hr (by omega)
    have hck := (hc k hk').trans (slcell_at hit)
    repeat (first | refine VC.seq ?_ | refine VC.block ?_ | refine VC.skip ?_)
    repeat (first | refine VC.seq ?_ | refine VC.block ?_ | refine VC.skip ?_)
    refine VC.region ?_
    refine VR.pure rfl rfl (p_assignI rfl) ?_
    refine VR.nil ?_
    repeat (first | refine VC.seq ?_ | refine VC.block ?_ | refine VC.skip ?_)
    refine VC.loop (σ := Nat × Blks) (fun s => [(0, .slice (some ⟨b, off, none⟩) m d), (3, .int .i64 k), (4, .int .i64 s.1)])
      (fun s w => s.1 ≤ it.n ∧ Mem F w (s.2 :: (Ms.eraseIdx k ++ Ls)) ∧ ∃ xs, OwnS 9 1 it.A it.n it.c xs s.2 ∧ xs.take (s.1 * 1) = mm (mkT k) s.1) (fun s => it.n - s.1) (0, L) ⟨rfl, rfl, rfl, trivial⟩
      ⟨by omega, hm.take_k hL, xs, ho, by simp [mm]⟩ ?_
    clear hm ho
    rintro ⟨i, L⟩ A' w ⟨hi, hm, xs, ho, hx⟩
    dsimp only at hi hm ho hx ⊢
    repeat (first | refine VC.seq ?_ | refine VC.block ?_ | refine VC.skip ?_)
    refine VC.region ?_
    refine VR.pure rfl rfl (p_moveI rfl) ?_
    refine VR.pure rfl rfl (p_moveL rfl) ?_
    refine VR.pure rfl rfl (p_moveI rfl) ?_
    refine VR.pure rfl rfl (p_idx1 Try.underlying48 Try.sizeOf36 rfl rfl hk') ?_
    refine VR.val rfl rfl (r_load (v := .slice _ _ _) Try.isAgg36 rfl (hm.fix _ _ hb) hck) ?_
    refine VR.pure rfl rfl (p_len Try.underlying36 rfl) ?_
    refine VR.pure rfl rfl (p_lt rfl rfl) ?_
    refine VR.nil ?_
    repeat (first | refine VC.seq ?_ | refine VC.block ?_ | refine VC.skip ?_)
    refine VC.condD rfl (fun h2 => ?_) (fun h2 => ?_)
    · have hi' : i < it.n := by omega
      obtain ⟨A, n, c⟩ := it
      dsimp only at hi hi' ho hck hsm ⊢
      rcases ho.2 with ⟨_, h0, _⟩ | ⟨g, cur, rfl, rfl, h3, h4, h5, _⟩
      · omega
      repeat (first | refine VC.seq ?_ | refine VC.block ?_ | refine VC.skip ?_)
      repeat (first | refine VC.seq ?_ | refine VC.block ?_ | refine VC.skip ?_)
      refine VC.loud (Kept F []) [7, 9] rfl (by kernel_rfl) (Kept.of0 hm.drew) ?_
      replace hm := hm.drew
      refine VL.pure rfl rfl rfl (p_moveL rfl) ?_
      refine VL.pure rfl rfl rfl (p_moveI rfl) ?_
      refine VL.pure rfl rfl rfl (p_idx1 Try.underlying48 Try.sizeOf36 rfl rfl hk') ?_
      refine VL.read rfl rfl rfl (fun w' hw' => r_load (v := .slice _ _ _) Try.isAgg36 rfl (hw'.fix _ _ hb) hck) ?_
      refine VL.pure rfl rfl rfl (p_moveI rfl) ?_
      refine VL.pure rfl rfl rfl (p_moveI rfl) ?_
      refine VL.pure rfl rfl rfl (p_moveI rfl) ?_
      refine VL.call rfl rfl rfl (r_call2 Try.call108 rfl rfl) (markText_c hm (by omega)) ?_
      rintro _ w ⟨rfl, hm⟩
      refine ⟨Kept.of0 hm, ?_⟩
      refine VL.pure rfl rfl rfl (p_idx1 Try.underlying36 Try.sizeOf9 rfl rfl hi') ?_
      refine VL.store (cs' := (lay cur (i * 1) (mkT k i))) (v := .string _) Try.sizeOf9 rfl rfl rfl rfl rfl rfl hm 0 0 rfl (by omega) (by rw [Nat.zero_add, Nat.mul_one]; rfl) (fun w' hm' => Kept.of0 hm') ?_
      intro w hm
      refine VL.nil ?_
      repeat (first | refine VC.seq ?_ | refine VC.block ?_ | refine VC.skip ?_)
      refine VC.region ?_
      refine VR.pure rfl rfl (p_moveI rfl) ?_
      refine VR.pure rfl rfl (p_add64 rfl rfl (by omega)) ?_
      refine VR.pure rfl rfl (p_assignI rfl) ?_
      refine VR.nil ?_
      obtain ⟨xs', ho', hx'⟩ := ho.marked (mkT_len k) hi' hx
      exact ⟨(i + 1, _), ⟨rfl, rfl, rfl, trivial⟩, ⟨by omega, hm, xs', ho', hx'⟩, by omega⟩
    · repeat (first | refine VC.seq ?_ | refine VC.block ?_ | refine VC.skip ?_)
      refine VC.exit ?_
      obtain rfl : i = it.n := by omega
      repeat (first | refine VC.seq ?_ | refine VC.block ?_ | refine VC.skip ?_)
      refine VC.region ?_
      refine VR.pure rfl rfl (p_moveI rfl) ?_
      refine VR.pure rfl rfl (p_add64 rfl rfl (by omega)) ?_
      refine VR.pure rfl rfl (p_assignI rfl) ?_
      refine VR.nil ?_
      have hkl : k < Ms.length := by rw [hall.1]; omega
      refine ⟨(k + 1, Ms.set k L), ⟨rfl, rfl, trivial⟩, ⟨by omega, hm.put_k hkl, hall.set hit ?_ fun j x M hj hxj h => ?_⟩, by omega⟩
      · rw [if_pos (by omega), ← hx, ← ho.1, List.take_length]
        exact ho
      · by_cases hjk : j < k
        · rw [if_pos hjk] at h
          rw [if_pos (by omega)]
          exact h
        · rw [if_neg hjk] at h
          rw [if_neg (by omega)]
          exact h
  · repeat (first | refine VC.seq ?_ | refine VC.block ?_ | refine VC.skip ?_)
    refine VC.exit ?_
    have hkm : k = m := by omega
    replace hall : All its Ms (fun j (it : Sl) L => OwnS 9 1 it.A it.n it.c (mm (mkT j) it.n) L) := hall.imp fun j it L hj h => by
      rw [if_pos (by have := (List.getElem?_eq_some_iff.1 hj).1; omega)] at h
      exact h
    clear hk h hkm
    repeat (first | refine VC.seq ?_ | refine VC.block ?_ | refine VC.skip ?_)
    refine VC.region ?_
    refine VR.pure rfl rfl (p_moveL rfl) ?_
    refine VR.pure rfl rfl (p_len Try.underlying48 rfl) ?_
    refine VR.new hm rfl rfl (n_makeSlice (s := 1) (bytes := 24) Try.underlying48 inf36 rfl rfl rfl rfl rfl (by omega) (by omega)) ?_
    intro gb w hm
    refine VR.pure rfl rfl (p_assignL rfl) ?_
    refine VR.nil ?_
    replace hm : Mem F w (Ms ++ ([(gb, .cells (madeCells (Value.slice none 0 0).cells (m * 1)) 36 (0, 0))] :: Ls)) := by
      refine (show Mem F w ([(gb, .cells (madeCells (Value.slice none 0 0).cells (m * 1)) 36 (0, 0))] :: (Ms ++ Ls)) from hm).permF ?_
      exact bring_perm _ _ _
    have hgs0 : (madeCells (Value.slice none 0 0).cells (m * 1)).size = m := by rw [size_madeCells, Nat.mul_one]
    generalize madeCells (Value.slice none 0 0).cells (m * 1) = gcur at hm hgs0
    repeat (first | refine VC.seq ?_ | refine VC.block ?_ | refine VC.skip ?_)
    refine VC.region ?_
    refine VR.pure rfl rfl (p_assignI rfl) ?_
    refine VR.nil ?_
    repeat (first | refine VC.seq ?_ | refine VC.block ?_ | refine VC.skip ?_)
    refine VC.loop (σ := Nat × List Blks × Array Value × (Nat → Sl)) (fun s => [(0, .slice O m d), (5, .slice (some ⟨gb, 0, none⟩) m m), (6, .int .i64 s.1)])
      (fun s w => s.1 ≤ m ∧ Mem F w (s.2.1 ++ ([(gb, .cells s.2.2.1 36 (0, 0))] :: Ls)) ∧ s.2.2.1.size = m ∧ (∀ j, j < s.1 → s.2.2.1[j]? = some (.slice (s.2.2.2 j).A (s.2.2.2 j).n (s.2.2.2 j).c)) ∧
        All its s.2.1 (fun j (it : Sl) L => if j < s.1 then GrT j it (s.2.2.2 j) 64 L else OwnS 9 1 it.A it.n it.c (mm (mkT j) it.n) L)) (fun s => m - s.1) (0, Ms, gcur, fun _ => ⟨none, 0, 0⟩) ⟨rfl, rfl, rfl, trivial⟩
      ⟨by omega, hm, hgs0, by omega, hall.imp fun j (it : Sl) L _ h => by rw [if_neg (by omega)]; exact h⟩ ?_
    clear hm hall hgs0
    rintro ⟨k, Ms, gcur, gsl⟩ A' w ⟨hk, hm, hgs, hgl, hall⟩
    dsimp only at hk hm hgs hgl hall ⊢
    repeat (first | refine VC.seq ?_ | refine VC.block ?_ | refine VC.skip ?_)
    refine VC.region ?_
    refine VR.pure rfl rfl (p_moveI rfl) ?_
    refine VR.pure rfl rfl (p_moveL rfl) ?_
    refine VR.pure rfl rfl (p_len Try.underlying48 rfl) ?_
    refine VR.pure rfl rfl (p_lt rfl rfl) ?_
    refine VR.nil ?_
    repeat (first | refine VC.seq ?_ | refine VC.block ?_ | refine VC.skip ?_)
    refine VC.condD rfl (fun h => ?_) (fun h => ?_)
    · have hk' : k < m := by omega
      obtain ⟨it, hit, _⟩ := get_of (xs := its) (k := k) (by omega)
      have hsm := hsmall k it hit
      obtain ⟨L, hL, ho⟩ := hall.get hit
      rw [if_neg (by omega)] at ho
      obtain ⟨b, off, blk, T, fr, rfl, hb, hc⟩ := Row.get hr (by omega)
      have hck := (hc k hk').trans (slcell_at hit)
      repeat (first | refine VC.seq ?_ | refine VC.block ?_ | refine VC.skip ?_)
      repeat (first | refine VC.seq ?_ | refine VC.block ?_ | refine VC.skip ?_)
      refine VC.region ?_
      refine VR.pure rfl rfl (p_moveL rfl) ?_
      refine VR.pure rfl rfl (p_moveI rfl) ?_
      refine VR.pure rfl rfl (p_idx1 Try.underlying48 Try.sizeOf36 rfl rfl hk') ?_
      refine VR.val rfl rfl (r_load (v := .slice _ _ _) Try.isAgg36 rfl (hm.fix _ _ hb) hck) ?_
      refine VR.pure rfl rfl (p_assignL rfl) ?_
      refine VR.nil ?_
      repeat (first | refine VC.seq ?_ | refine VC.block ?_ | refine VC.skip ?_)
      refine VC.region ?_
      refine VR.pure rfl rfl (p_assignI rfl) ?_
      refine VR.nil ?_
      repeat (first | refine VC.seq ?_ | refine VC.block ?_ | refine VC.skip ?_)
      refine VC.loop (σ := Nat × Blks × Sl) (fun s => [(0, .slice (some ⟨b, off, none⟩) m d), (5, .slice (some ⟨gb, 0, none⟩) m m), (6, .int .i64 k), (7, .slice s.2.2.A s.2.2.n s.2.2.c), (8, .int .i64 s.1)])
        (fun s w => s.1 ≤ 64 ∧ Mem F w (s.2.1 :: (Ms.eraseIdx k ++ ([(gb, .cells gcur 36 (0, 0))] :: Ls))) ∧ GrT k it s.2.2 s.1 s.2.1) (fun s => 64 - s.1) (0, L, it) ⟨rfl, rfl, rfl, rfl, rfl, trivial⟩
        ⟨by omega, hm.take_k hL, rfl, .inl ⟨rfl, rfl, ho⟩⟩ ?_
      clear hm ho
      rintro ⟨q, L, gq⟩ A' w ⟨hq, hm, hgr⟩
      dsimp only at hq hm hgr ⊢
      repeat (first | refine VC.seq ?_ | refine VC.block ?_ | refine VC.skip ?_)
      refine VC.region ?_
      refine VR.pure rfl rfl (p_moveI rfl) ?_
      refine VR.pure rfl rfl (p_lt rfl rfl) ?_
      refine VR.nil ?_
      repeat (first | refine VC.seq ?_ | refine VC.block ?_ | refine VC.skip ?_)
      refine VC.condD rfl (fun h2 => ?_) (fun h2 => ?_)
      · have hq' : q < 64 := by omega
        repeat (first | refine VC.seq ?_ | refine VC.block ?_ | refine VC.skip ?_)
        have hone : ∀ u ∈ [Value.string (markT (k : Int) ((it.n + q : Nat) : Int))], u.oneCell' = true := by simp [Value.oneCell']
        have emm : mm (mkT k) (it.n + (q + 1)) = mm (mkT k) (it.n + q) ++ [Value.string (markT (k : Int) ((it.n + q : Nat) : Int))] := by rw [← Nat.add_assoc, mm_succ]; rfl
        obtain ⟨hgn, hcase⟩ := hgr
        obtain ⟨gA, gn, gc⟩ := gq
        dsimp only at hgn hcase ⊢
        subst hgn
        rcases hcase with ⟨rfl, rfl, ho⟩ | ⟨L1, L2, rfl, ho1, ho2⟩
        · by_cases hroom : it.n + q + 1 ≤ it.c
          · obtain ⟨A, n, c⟩ := it
            dsimp only at hroom ho hck hsm hone emm ⊢
            rcases ho.2 with ⟨_, _, h0, _⟩ | ⟨g, cur, rfl, rfl, h3, h4, h5, _⟩
            · omega
            repeat (first | refine VC.seq ?_ | refine VC.block ?_ | refine VC.skip ?_)
            refine VC.region ?_
            refine VR.pure rfl rfl (p_moveL rfl) ?_
            refine VR.pure rfl rfl (p_moveI rfl) ?_
            refine VR.pure rfl rfl (p_moveL rfl) ?_
            refine VR.pure rfl rfl (p_moveI rfl) ?_
            refine VR.pure rfl rfl (p_idx1 Try.underlying48 Try.sizeOf36 rfl rfl hk') ?_
            refine VR.val rfl rfl (r_load (v := .slice _ _ _) Try.isAgg36 rfl (hm.fix _ _ hb) hck) ?_
            refine VR.pure rfl rfl (p_len Try.underlying36 rfl) ?_
            refine VR.pure rfl rfl (p_moveI rfl) ?_
            refine VR.pure rfl rfl (p_add64E (r := ((n + q : Nat) : Int)) rfl rfl (by omega) (by omega)) ?_
            refine VR.call rfl rfl (r_call2 Try.call108 rfl rfl) (markText_c hm (by omega)) ?_
            rintro _ w ⟨rfl, hm⟩
            refine VR.new hm rfl rfl (n_buildSlice1 (vs := [.string _]) Try.underlying36 inf9 rfl rfl rfl rfl rfl rfl rfl) ?_
            intro b16 w hm
            replace hm := hm.swap
            refine VR.appendI (s := 1) Try.underlying36 inf9 rfl rfl rfl rfl rfl rfl hm ho (Row.lit (cs := [.string (markT (k : Int) ((n + q : Nat) : Int))]) (hm.at_ 1 0 rfl)) hone rfl hroom ?_
            intro cur' w ho' hm
            refine VR.pure rfl rfl (p_assignL rfl) ?_
            refine VR.nil ?_
            repeat (first | refine VC.seq ?_ | refine VC.block ?_ | refine VC.skip ?_)
            refine VC.region ?_
            refine VR.pure rfl rfl (p_moveI rfl) ?_
            refine VR.pure rfl rfl (p_add64 rfl rfl (by omega)) ?_
            refine VR.pure rfl rfl (p_assignI rfl) ?_
            refine VR.nil ?_
            exact ⟨(q + 1, _, ⟨some ⟨g, 0, none⟩, n + (q + 1), c⟩), ⟨rfl, rfl, rfl, rfl, rfl, trivial⟩, ⟨by omega, hm.pop2, rfl, .inl ⟨rfl, rfl, by rw [emm]; exact ho'⟩⟩, by omega⟩
          · repeat (first | refine VC.seq ?_ | refine VC.block ?_ | refine VC.skip ?_)
            refine VC.region ?_
            refine VR.pure rfl rfl (p_moveL rfl) ?_
            refine VR.pure rfl rfl (p_moveI rfl) ?_
            refine VR.pure rfl rfl (p_moveL rfl) ?_
            refine VR.pure rfl rfl (p_moveI rfl) ?_
            refine VR.pure rfl rfl (p_idx1 Try.underlying48 Try.sizeOf36 rfl rfl hk') ?_
            refine VR.val rfl rfl (r_load (v := .slice _ _ _) Try.isAgg36 rfl (hm.fix _ _ hb) hck) ?_
            refine VR.pure rfl rfl (p_len Try.underlying36 rfl) ?_
            refine VR.pure rfl rfl (p_moveI rfl) ?_
            refine VR.pure rfl rfl (p_add64E (r := ((it.n + q : Nat) : Int)) rfl rfl (by omega) (by omega)) ?_
            refine VR.call rfl rfl (r_call2 Try.call108 rfl rfl) (markText_c hm (by omega)) ?_
            rintro _ w ⟨rfl, hm⟩
            refine VR.new hm rfl rfl (n_buildSlice1 (vs := [.string _]) Try.underlying36 inf9 rfl rfl rfl rfl rfl rfl rfl) ?_
            intro b16 w hm
            replace hm := hm.swap
            refine VR.appendK (s := 1) (bytes := 16) Try.underlying36 inf9 rfl rfl rfl rfl rfl rfl rfl rfl rfl hm ho (Row.lit (cs := [.string (markT (k : Int) ((it.n + q : Nat) : Int))]) (hm.at_ 1 0 rfl)) hone rfl (by omega) ⟨by unfold maxLen; omega, by omega⟩ ?_
            intro A' c' w L' ho' hm
            refine VR.pure rfl rfl (p_assignL rfl) ?_
            refine VR.nil ?_
            repeat (first | refine VC.seq ?_ | refine VC.block ?_ | refine VC.skip ?_)
            refine VC.region ?_
            refine VR.pure rfl rfl (p_moveI rfl) ?_
            refine VR.pure rfl rfl (p_add64 rfl rfl (by omega)) ?_
            refine VR.pure rfl rfl (p_assignI rfl) ?_
            refine VR.nil ?_
            refine ⟨(q + 1, L' ++ L, ⟨A', it.n + (q + 1), c'⟩), ⟨rfl, rfl, rfl, rfl, rfl, trivial⟩, ⟨by omega, (hm.pull 2 rfl).pop.flat (by simp), rfl, .inr ⟨L, L', rfl, ?_, by rw [emm]; exact ho'⟩⟩, by omega⟩
            have := ho.cut
            rwa [mm_take (mkT_len k)] at this
        · replace hm : Mem F w (L2 :: L1 :: (Ms.eraseIdx k ++ ([(gb, .cells gcur 36 (0, 0))] :: Ls))) := hm.flat (by simp)
          repeat (first | refine VC.seq ?_ | refine VC.block ?_ | refine VC.skip ?_)
          refine VC.region ?_
          refine VR.pure rfl rfl (p_moveL rfl) ?_
          refine VR.pure rfl rfl (p_moveI rfl) ?_
          refine VR.pure rfl rfl (p_moveL rfl) ?_
          refine VR.pure rfl rfl (p_moveI rfl) ?_
          refine VR.pure rfl rfl (p_idx1 Try.underlying48 Try.sizeOf36 rfl rfl hk') ?_
          refine VR.val rfl rfl (r_load (v := .slice _ _ _) Try.isAgg36 rfl (hm.fix _ _ hb) hck) ?_
          refine VR.pure rfl rfl (p_len Try.underlying36 rfl) ?_
          refine VR.pure rfl rfl (p_moveI rfl) ?_
          refine VR.pure rfl rfl (p_add64E (r := ((it.n + q : Nat) : Int)) rfl rfl (by omega) (by omega)) ?_
          refine VR.call rfl rfl (r_call2 Try.call108 rfl rfl) (markText_c hm (by omega)) ?_
          rintro _ w ⟨rfl, hm⟩
          refine VR.new hm rfl rfl (n_buildSlice1 (vs := [.string _]) Try.underlying36 inf9 rfl rfl rfl rfl rfl rfl rfl) ?_
          intro b16 w hm
          replace hm := hm.swap
          refine VR.append (s := 1) (bytes := 16) Try.underlying36 inf9 rfl rfl rfl rfl rfl rfl rfl rfl rfl hm ho2 (Row.lit (cs := [.string (markT (k : Int) ((it.n + q : Nat) : Int))]) (hm.at_ 1 0 rfl)) hone rfl ⟨by unfold maxLen; omega, by omega⟩ ?_
          intro A' c' w L' ho' hm
          refine VR.pure rfl rfl (p_assignL rfl) ?_
          refine VR.nil ?_
          repeat (first | refine VC.seq ?_ | refine VC.block ?_ | refine VC.skip ?_)
          refine VC.region ?_
          refine VR.pure rfl rfl (p_moveI rfl) ?_
          refine VR.pure rfl rfl (p_add64 rfl rfl (by omega)) ?_
          refine VR.pure rfl rfl (p_assignI rfl) ?_
          refine VR.nil ?_
          exact ⟨(q + 1, L' ++ L1, ⟨A', it.n + (q + 1), c'⟩), ⟨rfl, rfl, rfl, rfl, rfl, trivial⟩, ⟨by omega, hm.pop2.flat (by simp), rfl, .inr ⟨L1, L', rfl, ho1, by rw [emm]; exact ho'⟩⟩, by omega⟩
      · repeat (first | refine VC.seq ?_ | refine VC.block ?_ | refine VC.skip ?_)
        refine VC.exit ?_
        obtain rfl : q = 64 := by omega
        have hkl : k < Ms.length := by rw [hall.1]; omega
        replace hm : Mem F w ([(gb, .cells gcur 36 (0, 0))] :: (Ms.set k L ++ Ls)) := (hm.put_k hkl).permF (bring_perm _ _ _).symm
        repeat (first | refine VC.seq ?_ | refine VC.block ?_ | refine VC.skip ?_)
        refine VC.region ?_
        refine VR.pure rfl rfl (p_moveL rfl) ?_
        refine VR.pure rfl rfl (p_moveI rfl) ?_
        refine VR.pure rfl rfl (p_moveL rfl) ?_
        refine VR.pure rfl rfl (p_idx1 Try.underlying48 Try.sizeOf36 rfl rfl hk') ?_
        refine VR.store (cs' := (lay gcur (0 + k) [.slice gq.A gq.n gq.c])) (v := .slice _ _ _) Try.sizeOf36 rfl rfl rfl rfl rfl hm 0 0 rfl (by omega) rfl ?_
        intro w hm
        refine VR.nil ?_
        repeat (first | refine VC.seq ?_ | refine VC.block ?_ | refine VC.skip ?_)
        refine VC.region ?_
        refine VR.pure rfl rfl (p_moveI rfl) ?_
        refine VR.pure rfl rfl (p_add64 rfl rfl (by omega)) ?_
        refine VR.pure rfl rfl (p_assignI rfl) ?_
        refine VR.nil ?_
        refine ⟨(k + 1, Ms.set k L, lay gcur (0 + k) [.slice gq.A gq.n gq.c], fun j => if j = k then gq else gsl j), ⟨rfl, rfl, rfl, trivial⟩, ⟨by omega, hm.permF (bring_perm _ _ _), by rw [lay_size]; exact hgs, fun j hj => ?_, hall.set hit ?_ fun j x M hj hxj h => ?_⟩, by omega⟩
        · rw [lay_at _ _ _ _ (by show 0 + k + 1 ≤ gcur.size; omega)]
          by_cases hjk : j = k
          · subst hjk
            simp
          · rw [if_neg (by simp only [List.length_singleton]; omega)]
            simp only [if_neg hjk]
            exact hgl j (by omega)
        · rw [if_pos (by omega)]
          simp only [if_true]
          exact hgr
        · simp only [if_neg hj]
          by_cases hjk : j < k
          · rw [if_pos hjk] at h
            rw [if_pos (by omega)]
            exact h
          · rw [if_neg hjk] at h
            rw [if_neg (by omega)]
            exact h
    · repeat (first | refine VC.seq ?_ | refine VC.block ?_ | refine VC.skip ?_)
      refine VC.exit ?_
      have hkm : k = m := by omega
      replace hall : All its Ms (fun j (it : Sl) L => GrT j it (gsl j) 64 L) := hall.imp fun j (it : Sl) L hj h => by
        rw [if_pos (by have := (List.getElem?_eq_some_iff.1 hj).1; omega)] at h
        exact h
      rw [hkm] at hgl
      clear hk h hkm
      -- the third loop: all are looked at
      have hE := hm.all
      have hFE : F.le (F.plus (Ms ++ ([(gb, .cells gcur 36 (0, 0))] :: Ls))) := hm.le
      have hgbE : (F.plus (Ms ++ ([(gb, .cells gcur 36 (0, 0))] :: Ls))).heap gb = some (.cells gcur 36 (0, 0)) := hm.plus_mem (List.mem_append_right _ (.head _)) _ (.head _)
      have hreads : ∀ (j : Nat) (it : Sl), its[j]? = some it → (gsl j).n = it.n + 64 ∧ Row (F.plus (Ms ++ ([(gb, .cells gcur 36 (0, 0))] :: Ls))).heap it.A it.n (mm (mkT j) it.n) ∧ Row (F.plus (Ms ++ ([(gb, .cells gcur 36 (0, 0))] :: Ls))).heap (gsl j).A (it.n + 64) (mm (mkT j) (it.n + 64)) := fun j it hj => by
        obtain ⟨L, hL, hg⟩ := hall.get hj
        exact ⟨hg.1, hg.reads.2 _ (hm.plus_k hL)⟩
      repeat (first | refine VC.seq ?_ | refine VC.block ?_ | refine VC.skip ?_)
      refine VC.region ?_
      refine VR.pure rfl rfl (p_assignI rfl) ?_
      refine VR.nil ?_
      repeat (first | refine VC.seq ?_ | refine VC.block ?_ | refine VC.skip ?_)
      have hback : ∀ w', Mem (F.plus (Ms ++ ([(gb, .cells gcur 36 (0, 0))] :: Ls))) w' [] → Mem F w' (Ms ++ ([(gb, .cells gcur 36 (0, 0))] :: Ls)) := fun w' h => hm.back0 h
      clear hm
      generalize F.plus (Ms ++ ([(gb, .cells gcur 36 (0, 0))] :: Ls)) = E at hE hgbE hreads hFE hback
      have hrE := hr.mono hFE
      refine VC.loop (σ := Nat) (fun k => [(0, .slice O m d), (5, .slice (some ⟨gb, 0, none⟩) m m), (9, .int .i64 k)]) (fun k w => k ≤ m ∧ Mem E w []) (fun k => m - k) 0 ⟨rfl, rfl, rfl, trivial⟩ ⟨by omega, hE⟩ ?_
      clear hE
      rintro k A' w ⟨hk, hm⟩
      repeat (first | refine VC.seq ?_ | refine VC.block ?_ | refine VC.skip ?_)
      refine VC.region ?_
      refine VR.pure rfl rfl (p_moveI rfl) ?_
      refine VR.pure rfl rfl (p_moveL rfl) ?_
      refine VR.pure rfl rfl (p_len Try.underlying48 rfl) ?_
      refine VR.pure rfl rfl (p_lt rfl rfl) ?_
      refine VR.nil ?_
      repeat (first | refine VC.seq ?_ | refine VC.block ?_ | refine VC.skip ?_)
      refine VC.condD rfl (fun h => ?_) (fun h => ?_)
      · have hk' : k < m := by omega
        obtain ⟨it, hit, _⟩ := get_of (xs := its) (k := k) (by omega)
        have hsm := hsmall k it hit
        obtain ⟨hgn, hr1, hr2⟩ := hreads k it hit
        have hgk := hgl k hk'
        rw [hgn] at hgk
        obtain ⟨b, off, blk, T, fr, rfl, hb, hc⟩ := Row.get hrE (by omega)
        have hck := (hc k hk').trans (slcell_at hit)
        repeat (first | refine VC.seq ?_ | refine VC.block ?_ | refine VC.skip ?_)
        repeat (first | refine VC.seq ?_ | refine VC.block ?_ | refine VC.skip ?_)
        refine VC.region ?_
        refine VR.pure rfl rfl (p_assignI rfl) ?_
        refine VR.nil ?_
        repeat (first | refine VC.seq ?_ | refine VC.block ?_ | refine VC.skip ?_)
        refine VC.loop (σ := Nat) (fun i => [(0, .slice (some ⟨b, off, none⟩) m d), (5, .slice (some ⟨gb, 0, none⟩) m m), (9, .int .i64 k), (10, .int .i64 i)]) (fun i w => i ≤ it.n + 64 ∧ Mem E w []) (fun i => it.n + 64 - i) 0 ⟨rfl, rfl, rfl, rfl, trivial⟩ ⟨by omega, hm⟩ ?_
        clear hm
        rintro i A' w ⟨hi, hm⟩
        have hgk0 : gcur[0 + k]? = some (.slice (gsl k).A (it.n + 64) (gsl k).c) := by rw [Nat.zero_add]; exact hgk
        repeat (first | refine VC.seq ?_ | refine VC.block ?_ | refine VC.skip ?_)
        refine VC.region ?_
        refine VR.pure rfl rfl (p_moveI rfl) ?_
        refine VR.pure rfl rfl (p_moveL rfl) ?_
        refine VR.pure rfl rfl (p_moveI rfl) ?_
        refine VR.pure rfl rfl (p_idx1 Try.underlying48 Try.sizeOf36 rfl rfl hk') ?_
        refine VR.val rfl rfl (r_load (v := .slice _ _ _) Try.isAgg36 rfl (hm.fix _ _ hgbE) hgk0) ?_
        refine VR.pure rfl rfl (p_len Try.underlying36 rfl) ?_
        refine VR.pure rfl rfl (p_lt rfl rfl) ?_
        refine VR.nil ?_
        repeat (first | refine VC.seq ?_ | refine VC.block ?_ | refine VC.skip ?_)
        refine VC.condD rfl (fun h2 => ?_) (fun h2 => ?_)
        · have hi' : i < it.n + 64 := by omega
          repeat (first | refine VC.seq ?_ | refine VC.block ?_ | refine VC.skip ?_)
          generalize gsl k = gk at hgk0 hgn hr2
          obtain ⟨gA, gn, gc⟩ := gk
          dsimp only at hgk0 hgn hr2
          obtain ⟨bg, offg, blkg, Tg, frg, rfl, hbg, hcg⟩ := Row.get hr2 (by omega)
          have hcgi := (hcg i hi').trans (mmT_at (k := k) hi')
          by_cases h3 : i < it.n
          · obtain ⟨A, n, c⟩ := it
            dsimp only at h3 hr1 hck hi' hgk0 hsm ⊢
            obtain ⟨bl, offl, blkl, Tl, frl, rfl, hbl, hcl⟩ := Row.get hr1 (by omega)
            have hcli := (hcl i h3).trans (mmT_at (k := k) h3)
            repeat (first | refine VC.seq ?_ | refine VC.block ?_ | refine VC.skip ?_)
            refine VC.loud (Kept E []) [9, 30] rfl (by kernel_rfl) (Kept.of0 hm.drew) ?_
            replace hm := hm.drew
            refine VL.pure rfl rfl rfl (p_moveL rfl) ?_
            refine VL.pure rfl rfl rfl (p_moveI rfl) ?_
            refine VL.pure rfl rfl rfl (p_idx1 Try.underlying48 Try.sizeOf36 rfl rfl hk') ?_
            refine VL.read rfl rfl rfl (fun w' hw' => r_load (v := .slice _ _ _) Try.isAgg36 rfl (hw'.fix _ _ hgbE) hgk0) ?_
            refine VL.pure rfl rfl rfl (p_moveI rfl) ?_
            refine VL.pure rfl rfl rfl (p_idx1 Try.underlying36 Try.sizeOf9 rfl rfl hi') ?_
            refine VL.read rfl rfl rfl (fun w' hw' => r_load (v := .string _) Try.isAgg9 rfl (hw'.fix _ _ hbg) hcgi) ?_
            refine VL.pure rfl rfl rfl (p_moveI rfl) ?_
            refine VL.pure rfl rfl rfl (p_moveI rfl) ?_
            refine VL.call rfl rfl rfl (r_call2 Try.call108 rfl rfl) (markText_c hm (by omega)) ?_
            rintro _ w ⟨rfl, hm⟩
            refine ⟨Kept.of0 hm, ?_⟩
            refine VL.pure rfl rfl rfl (p_eqS rfl rfl) ?_
            refine VL.pure rfl rfl rfl (p_notD rfl) ?_
            refine VL.pure rfl rfl rfl (p_moveB rfl) ?_
            refine VL.knownF 100 rfl (decide_eq_false (not_not_intro rfl)) ?_
            refine VL.pureG rfl rfl rfl (p_moveI rfl) ?_
            refine VL.pureG rfl rfl rfl (p_moveL rfl) ?_
            refine VL.pureG rfl rfl rfl (p_moveI rfl) ?_
            refine VL.pureG rfl rfl rfl (p_idx1 Try.underlying48 Try.sizeOf36 rfl rfl hk') ?_
            refine VL.readG rfl rfl rfl (fun w' hw' => r_load (v := .slice _ _ _) Try.isAgg36 rfl (hw'.fix _ _ hb) hck) ?_
            refine VL.pureG rfl rfl rfl (p_len Try.underlying36 rfl) ?_
            refine VL.pureG rfl rfl rfl (p_lt rfl rfl) ?_
            refine VL.pureG rfl rfl rfl (p_moveB rfl) ?_
            refine VL.knownT 108 rfl (decide_eq_true (by omega)) ?_
            refine VL.pureG rfl rfl rfl (p_moveL rfl) ?_
            refine VL.pureG rfl rfl rfl (p_moveI rfl) ?_
            refine VL.pureG rfl rfl rfl (p_idx1 Try.underlying48 Try.sizeOf36 rfl rfl hk') ?_
            refine VL.readG rfl rfl rfl (fun w' hw' => r_load (v := .slice _ _ _) Try.isAgg36 rfl (hw'.fix _ _ hb) hck) ?_
            refine VL.pureG rfl rfl rfl (p_moveI rfl) ?_
            refine VL.pureG rfl rfl rfl (p_idx1 Try.underlying36 Try.sizeOf9 rfl rfl h3) ?_
            refine VL.readG rfl rfl rfl (fun w' hw' => r_load (v := .string _) Try.isAgg9 rfl (hw'.fix _ _ hbl) hcli) ?_
            refine VL.pureG rfl rfl rfl (p_moveI rfl) ?_
            refine VL.pureG rfl rfl rfl (p_moveI rfl) ?_
            refine VL.callG rfl rfl rfl (r_call2 Try.call108 rfl rfl) (markText_c hm (by omega)) ?_
            rintro _ w ⟨rfl, hm⟩
            refine ⟨Kept.of0 hm, ?_⟩
            refine VL.pureG rfl rfl rfl (p_eqS rfl rfl) ?_
            refine VL.pureG rfl rfl rfl (p_notD rfl) ?_
            refine VL.pureG rfl rfl rfl (p_pickT rfl rfl) ?_
            refine VL.pure rfl rfl rfl (p_pickF rfl rfl) ?_
            refine VL.nil ?_
            repeat (first | refine VC.seq ?_ | refine VC.block ?_ | refine VC.skip ?_)
            refine VC.condF rfl (decide_eq_false (not_not_intro rfl)) ?_
            repeat (first | refine VC.seq ?_ | refine VC.block ?_ | refine VC.skip ?_)
            repeat (first | refine VC.seq ?_ | refine VC.block ?_ | refine VC.skip ?_)
            refine VC.region ?_
            refine VR.pure rfl rfl (p_moveI rfl) ?_
            refine VR.pure rfl rfl (p_add64 rfl rfl (by omega)) ?_
            refine VR.pure rfl rfl (p_assignI rfl) ?_
            refine VR.nil ?_
            exact ⟨i + 1, ⟨rfl, rfl, rfl, rfl, trivial⟩, ⟨by omega, hm⟩, by omega⟩
          · repeat (first | refine VC.seq ?_ | refine VC.block ?_ | refine VC.skip ?_)
            refine VC.loud (Kept E []) [9, 30] rfl (by kernel_rfl) (Kept.of0 hm.drew) ?_
            replace hm := hm.drew
            refine VL.pure rfl rfl rfl (p_moveL rfl) ?_
            refine VL.pure rfl rfl rfl (p_moveI rfl) ?_
            refine VL.pure rfl rfl rfl (p_idx1 Try.underlying48 Try.sizeOf36 rfl rfl hk') ?_
            refine VL.read rfl rfl rfl (fun w' hw' => r_load (v := .slice _ _ _) Try.isAgg36 rfl (hw'.fix _ _ hgbE) hgk0) ?_
            refine VL.pure rfl rfl rfl (p_moveI rfl) ?_
            refine VL.pure rfl rfl rfl (p_idx1 Try.underlying36 Try.sizeOf9 rfl rfl hi') ?_
            refine VL.read rfl rfl rfl (fun w' hw' => r_load (v := .string _) Try.isAgg9 rfl (hw'.fix _ _ hbg) hcgi) ?_
            refine VL.pure rfl rfl rfl (p_moveI rfl) ?_
            refine VL.pure rfl rfl rfl (p_moveI rfl) ?_
            refine VL.call rfl rfl rfl (r_call2 Try.call108 rfl rfl) (markText_c hm (by omega)) ?_
            rintro _ w ⟨rfl, hm⟩
            refine ⟨Kept.of0 hm, ?_⟩
            refine VL.pure rfl rfl rfl (p_eqS rfl rfl) ?_
            refine VL.pure rfl rfl rfl (p_notD rfl) ?_
            refine VL.pure rfl rfl rfl (p_moveB rfl) ?_
            refine VL.knownF 100 rfl (decide_eq_false (not_not_intro rfl)) ?_
            refine VL.pureG rfl rfl rfl (p_moveI rfl) ?_
            refine VL.pureG rfl rfl rfl (p_moveL rfl) ?_
            refine VL.pureG rfl rfl rfl (p_moveI rfl) ?_
            refine VL.pureG rfl rfl rfl (p_idx1 Try.underlying48 Try.sizeOf36 rfl rfl hk') ?_
            refine VL.readG rfl rfl rfl (fun w' hw' => r_load (v := .slice _ _ _) Try.isAgg36 rfl (hw'.fix _ _ hb) hck) ?_
            refine VL.pureG rfl rfl rfl (p_len Try.underlying36 rfl) ?_
            refine VL.pureG rfl rfl rfl (p_lt rfl rfl) ?_
            refine VL.pureG rfl rfl rfl (p_moveB rfl) ?_
            refine VL.knownF 108 rfl (decide_eq_false (by omega)) ?_
            refine VL.pass rfl rfl ?_
            refine VL.pass rfl rfl ?_
            refine VL.pass rfl rfl ?_
            refine VL.pass rfl rfl ?_
            refine VL.pass rfl rfl ?_
            refine VL.pass rfl rfl ?_
            refine VL.pass rfl rfl ?_
            refine VL.pass rfl rfl ?_
            refine VL.pass rfl rfl ?_
            refine VL.pass rfl rfl ?_
            refine VL.pass rfl rfl ?_
            refine VL.pass rfl rfl ?_
            refine VL.pureG rfl rfl rfl (p_pickF rfl rfl) ?_
            refine VL.pure rfl rfl rfl (p_pickF rfl rfl) ?_
            refine VL.nil ?_
            repeat (first | refine VC.seq ?_ | refine VC.block ?_ | refine VC.skip ?_)
            refine VC.condF rfl rfl ?_
            repeat (first | refine VC.seq ?_ | refine VC.block ?_ | refine VC.skip ?_)
            repeat (first | refine VC.seq ?_ | refine VC.block ?_ | refine VC.skip ?_)
            refine VC.region ?_
            refine VR.pure rfl rfl (p_moveI rfl) ?_
            refine VR.pure rfl rfl (p_add64 rfl rfl (by omega)) ?_
            refine VR.pure rfl rfl (p_assignI rfl) ?_
            refine VR.nil ?_
            exact ⟨i + 1, ⟨rfl, rfl, rfl, rfl, trivial⟩, ⟨by omega, hm⟩, by omega⟩
        · repeat (first | refine VC.seq ?_ | refine VC.block ?_ | refine VC.skip ?_)
          refine VC.exit ?_
          repeat (first | refine VC.seq ?_ | refine VC.block ?_ | refine VC.skip ?_)
          refine VC.region ?_
          refine VR.pure rfl rfl (p_moveI rfl) ?_
          refine VR.pure rfl rfl (p_add64 rfl rfl (by omega)) ?_
          refine VR.pure rfl rfl (p_assignI rfl) ?_
          refine VR.nil ?_
          exact ⟨k + 1, ⟨rfl, rfl, rfl, trivial⟩, ⟨by omega, hm⟩, by omega⟩
      · repeat (first | refine VC.seq ?_ | refine VC.block ?_ | refine VC.skip ?_)
        refine VC.exit ?_
        replace hm := hback _ hm
        clear hback hrE hgbE hreads hFE hk h
        -- the fourth loop: each is grown by many at once
        repeat (first | refine VC.seq ?_ | refine VC.block ?_ | refine VC.skip ?_)
        refine VC.region ?_
        refine VR.pure rfl rfl (p_assignI rfl) ?_
        refine VR.nil ?_
        repeat (first | refine VC.seq ?_ | refine VC.block ?_ | refine VC.skip ?_)
        refine VC.loop (σ := Nat × List Blks × Array Value × (Nat → Sl)) (fun s => [(0, .slice O m d), (5, .slice (some ⟨gb, 0, none⟩) m m), (11, .int .i64 s.1)])
          (fun s w => s.1 ≤ m ∧ Mem F w (s.2.1 ++ ([(gb, .cells s.2.2.1 36 (0, 0))] :: Ls)) ∧ s.2.2.1.size = m ∧ (∀ j, j < s.1 → s.2.2.1[j]? = some (.slice (s.2.2.2 j).A (s.2.2.2 j).n (s.2.2.2 j).c)) ∧
            All its s.2.1 (fun j (it : Sl) L => if j < s.1 then FnT j it (s.2.2.2 j) 0 L else GrT j it (s.2.2.2 j) 64 L)) (fun s => m - s.1) (0, Ms, gcur, gsl) ⟨rfl, rfl, rfl, trivial⟩
          ⟨by omega, hm, hgs, by omega, hall.imp fun j (it : Sl) L _ h => by rw [if_neg (by omega)]; exact h⟩ ?_
        clear hm hall hgs hgl
        rintro ⟨k, Ms, gcur, gsl⟩ A' w ⟨hk, hm, hgs, hgl, hall⟩
        dsimp only at hk hm hgs hgl hall ⊢
        repeat (first | refine VC.seq ?_ | refine VC.block ?_ | refine VC.skip ?_)
        refine VC.region ?_
        refine VR.pure rfl rfl (p_moveI rfl) ?_
        refine VR.pure rfl rfl (p_moveL rfl) ?_
        refine VR.pure rfl rfl (p_len Try.underlying48 rfl) ?_
        refine VR.pure rfl rfl (p_lt rfl rfl) ?_
        refine VR.nil ?_
        repeat (first | refine VC.seq ?_ | refine VC.block ?_ | refine VC.skip ?_)
        refine VC.condD rfl (fun h => ?_) (fun h => ?_)
        · have hk' : k < m := by omega
          obtain ⟨it, hit, _⟩ := get_of (xs := its) (k := k) (by omega)
          have hsm := hsmall k it hit
          obtain ⟨L, hL, hgr⟩ := hall.get hit
          rw [if_neg (by omega)] at hgr
          obtain ⟨b, off, blk, T, fr, rfl, hb, hc⟩ := Row.get hr (by omega)
          have hck := (hc k hk').trans (slcell_at hit)
          have hkl : k < Ms.length := by rw [hall.1]; omega
          repeat (first | refine VC.seq ?_ | refine VC.block ?_ | refine VC.skip ?_)
          repeat (first | refine VC.seq ?_ | refine VC.block ?_ | refine VC.skip ?_)
          refine VC.region ?_
          refine VR.new hm rfl rfl (n_makeSlice (s := 1) (bytes := 16) Try.underlying36 inf9 rfl rfl rfl rfl rfl (by omega) (by omega)) ?_
          intro gm w hm
          refine VR.pure rfl rfl (p_assignL rfl) ?_
          refine VR.nil ?_
          repeat (first | refine VC.seq ?_ | refine VC.block ?_ | refine VC.skip ?_)
          refine VC.region ?_
          refine VR.pure rfl rfl (p_assignI rfl) ?_
          refine VR.nil ?_
          repeat (first | refine VC.seq ?_ | refine VC.block ?_ | refine VC.skip ?_)
          refine VC.loop (σ := Nat × Array Value) (fun s => [(0, .slice (some ⟨b, off, none⟩) m d), (5, .slice (some ⟨gb, 0, none⟩) m m), (11, .int .i64 k), (12, .slice (some ⟨gm, 0, none⟩) 64 64), (13, .int .i64 s.1)])
            (fun s w => s.1 ≤ 64 ∧ Mem F w ([(gm, .cells s.2 9 (0, 0))] :: (Ms ++ ([(gb, .cells gcur 36 (0, 0))] :: Ls))) ∧ ∃ xs, OwnS 9 1 (some ⟨gm, 0, none⟩) 64 64 xs [(gm, .cells s.2 9 (0, 0))] ∧ xs.take (s.1 * 1) = mm (mkT (k + m)) s.1) (fun s => 64 - s.1)
            (0, madeCells (Value.string ⟨#[]⟩).cells (64 * 1)) ⟨rfl, rfl, rfl, rfl, rfl, trivial⟩ ⟨by omega, hm, _, OwnS.whole (by unfold maxLen; omega) (size_madeCells _ _), by simp [mm]⟩ ?_
          clear hm
          rintro ⟨i, cur⟩ A' w ⟨hi, hm, xs, ho, hx⟩
          dsimp only at hi hm ho hx ⊢
          repeat (first | refine VC.seq ?_ | refine VC.block ?_ | refine VC.skip ?_)
          refine VC.region ?_
          refine VR.pure rfl rfl (p_moveI rfl) ?_
          refine VR.pure rfl rfl (p_lt rfl rfl) ?_
          refine VR.nil ?_
          repeat (first | refine VC.seq ?_ | refine VC.block ?_ | refine VC.skip ?_)
          refine VC.condD rfl (fun h2 => ?_) (fun h2 => ?_)
          · have hi' : i < 64 := by omega
            have hsz := ho.size
            repeat (first | refine VC.seq ?_ | refine VC.block ?_ | refine VC.skip ?_)
            repeat (first | refine VC.seq ?_ | refine VC.block ?_ | refine VC.skip ?_)
            refine VC.region ?_
            refine VR.pure rfl rfl (p_moveL rfl) ?_
            refine VR.pure rfl rfl (p_moveI rfl) ?_
            refine VR.pure rfl rfl (p_moveI rfl) ?_
            refine VR.pure rfl rfl (p_moveL rfl) ?_
            refine VR.pure rfl rfl (p_len Try.underlying48 rfl) ?_
            refine VR.pure rfl rfl (p_add64E (r := ((k + m : Nat) : Int)) rfl rfl (by omega) (by omega)) ?_
            refine VR.pure rfl rfl (p_moveI rfl) ?_
            refine VR.call rfl rfl (r_call2 Try.call108 rfl rfl) (markText_c hm (by omega)) ?_
            rintro _ w ⟨rfl, hm⟩
            refine VR.pure rfl rfl (p_idx1 Try.underlying36 Try.sizeOf9 rfl rfl hi') ?_
            refine VR.store (cs' := (lay cur (i * 1) (mkT (k + m) i))) (v := .string _) Try.sizeOf9 rfl rfl rfl rfl rfl hm 0 0 rfl (by omega) (by rw [Nat.zero_add, Nat.mul_one]; rfl) ?_
            intro w hm
            refine VR.nil ?_
            repeat (first | refine VC.seq ?_ | refine VC.block ?_ | refine VC.skip ?_)
            refine VC.region ?_
            refine VR.pure rfl rfl (p_moveI rfl) ?_
            refine VR.pure rfl rfl (p_add64 rfl rfl (by omega)) ?_
            refine VR.pure rfl rfl (p_assignI rfl) ?_
            refine VR.nil ?_
            obtain ⟨xs', ho', hx'⟩ := ho.marked (mkT_len (k + m)) hi' hx
            exact ⟨(i + 1, _), ⟨rfl, rfl, rfl, rfl, rfl, trivial⟩, ⟨by omega, hm, xs', ho', hx'⟩, by omega⟩
          · repeat (first | refine VC.seq ?_ | refine VC.block ?_ | refine VC.skip ?_)
            refine VC.exit ?_
            obtain rfl : i = 64 := by omega
            have hmany : OwnS 9 1 (some ⟨gm, 0, none⟩) 64 64 (mm (mkT (k + m)) 64) [(gm, .cells cur 9 (0, 0))] := by
              rw [← hx, show (64 : Nat) * 1 = xs.length from ho.1.symm, List.take_length]
              exact ho
            have hone : ∀ u ∈ mm (mkT (k + m)) 64, u.oneCell' = true := mm_one (mkT_one (k + m)) 64
            replace hm := (hm.permF (bring_perm _ _ _)).take_k hL
            -- what the round ends with
            have hend : ∀ (w : World) (L' : Blks) (gA : Option Addr) (gc : Nat), Mem F w ([(gb, .cells (lay gcur (0 + k) [.slice gA (it.n + 64) gc]) 36 (0, 0))] :: L' :: (Ms.eraseIdx k ++ ([(gm, .cells cur 9 (0, 0))] :: Ls))) → FnT k it ⟨gA, it.n + 64, gc⟩ 0 L' →
                ∃ s : Nat × List Blks × Array Value × (Nat → Sl), s.1 = k + 1 ∧ s.1 ≤ m ∧ Mem F w (s.2.1 ++ ([(gb, .cells s.2.2.1 36 (0, 0))] :: Ls)) ∧ s.2.2.1.size = m ∧ (∀ j, j < s.1 → s.2.2.1[j]? = some (.slice (s.2.2.2 j).A (s.2.2.2 j).n (s.2.2.2 j).c)) ∧
                  All its s.2.1 (fun j (it : Sl) L => if j < s.1 then FnT j it (s.2.2.2 j) 0 L else GrT j it (s.2.2.2 j) 64 L) := fun w L' gA gc h1 h2 => by
              refine ⟨(k + 1, Ms.set k L', lay gcur (0 + k) [.slice gA (it.n + 64) gc], fun j => if j = k then ⟨gA, it.n + 64, gc⟩ else gsl j), rfl, by show k + 1 ≤ m; omega, (((h1.permF (back_perm _ _ _ _ _)).put_k hkl).subF (drop_mid _ _ _)), by rw [lay_size]; exact hgs, fun j hj => ?_, hall.set hit ?_ fun j x M hj hxj h => ?_⟩
              · have hj' : j < k + 1 := hj
                rw [lay_at _ _ _ _ (by show 0 + k + 1 ≤ gcur.size; omega)]
                by_cases hjk : j = k
                · subst hjk
                  simp
                · rw [if_neg (by simp only [List.length_singleton]; omega)]
                  simp only [if_neg hjk]
                  exact hgl j (by omega)
              · rw [if_pos (by omega)]
                simp only [if_true]
                exact h2
              · simp only [if_neg hj]
                by_cases hjk : j < k
                · rw [if_pos hjk] at h
                  rw [if_pos (by omega)]
                  exact h
                · rw [if_neg hjk] at h
                  rw [if_neg (by omega)]
                  exact h
            obtain ⟨hgn, hcase⟩ := hgr
            have key : ∃ L1, OwnS 9 1 it.A it.n it.c (mm (mkT k) it.n) L1 ∧ Mem F w (L1 :: (Ms.eraseIdx k ++ ([(gm, .cells cur 9 (0, 0))] :: [(gb, .cells gcur 36 (0, 0))] :: Ls))) := by
              rcases hcase with ⟨_, _, ho⟩ | ⟨L1, L2, rfl, ho1, _⟩
              · have h1 := ho.cut
                rw [mm_take (mkT_len k)] at h1
                exact ⟨L, h1, hm⟩
              · exact ⟨L1, ho1, (show Mem F w (L2 :: L1 :: (Ms.eraseIdx k ++ ([(gm, .cells cur 9 (0, 0))] :: [(gb, .cells gcur 36 (0, 0))] :: Ls))) from hm.flat (by simp)).pop⟩
            clear hm hcase hx ho
            obtain ⟨L1, ho1, hm⟩ := key
            have hmr := (hmany.row (hm.plus_mem (.tail _ (List.mem_append_right _ (.head _))))).mono hm.all.fix
            by_cases hroom : it.n + 64 ≤ it.c
            · obtain ⟨A, n, c⟩ := it
              dsimp only at hroom ho1 hck hsm hend hit ⊢
              rcases ho1.2 with ⟨_, _, h0, _⟩ | ⟨g, cur1, rfl, rfl, h3, h4, h5, _⟩
              · omega
              repeat (first | refine VC.seq ?_ | refine VC.block ?_ | refine VC.skip ?_)
              refine VC.region ?_
              refine VR.pure rfl rfl (p_moveL rfl) ?_
              refine VR.pure rfl rfl (p_moveI rfl) ?_
              refine VR.pure rfl rfl (p_moveL rfl) ?_
              refine VR.pure rfl rfl (p_moveI rfl) ?_
              refine VR.pure rfl rfl (p_idx1 Try.underlying48 Try.sizeOf36 rfl rfl hk') ?_
              refine VR.val rfl rfl (r_load (v := .slice _ _ _) Try.isAgg36 rfl (hm.fix _ _ hb) hck) ?_
              refine VR.pure rfl rfl (p_moveL rfl) ?_
              refine VR.appendI (s := 1) Try.underlying36 inf9 rfl rfl rfl rfl rfl rfl hm ho1 hmr hone rfl hroom ?_
              intro cur' w ho' hm
              refine VR.pure rfl rfl (p_idx1 Try.underlying48 Try.sizeOf36 rfl rfl hk') ?_
              replace hm := hm.permF (bring2_perm _ _ _ _ _)
              refine VR.store (cs' := (lay gcur (0 + k) [.slice (some ⟨g, 0, none⟩) (n + 64) c])) (v := .slice _ _ _) Try.sizeOf36 rfl rfl rfl rfl rfl hm 0 0 rfl (by omega) rfl ?_
              intro w hm
              refine VR.nil ?_
              have hfn : FnT k ⟨some ⟨g, 0, none⟩, n, c⟩ ⟨some ⟨g, 0, none⟩, n + 64, c⟩ 0 [(g, .cells cur' 9 (0, 0))] := ⟨by simp, fun H hH => by
                have h1 := ho'.cut
                rw [List.take_left' (mm_len (mkT_len k) n)] at h1
                exact ⟨h1.row1 hH, h1.row1 hH⟩⟩
              obtain ⟨s, hs1, hs2⟩ := hend _ _ _ _ hm hfn
              repeat (first | refine VC.seq ?_ | refine VC.block ?_ | refine VC.skip ?_)
              refine VC.region ?_
              refine VR.pure rfl rfl (p_moveI rfl) ?_
              refine VR.pure rfl rfl (p_add64 rfl rfl (by omega)) ?_
              refine VR.pure rfl rfl (p_assignI rfl) ?_
              refine VR.nil ?_
              exact ⟨s, ⟨rfl, rfl, by rw [hs1]; rfl, trivial⟩, hs2, by omega⟩
            · repeat (first | refine VC.seq ?_ | refine VC.block ?_ | refine VC.skip ?_)
              refine VC.region ?_
              refine VR.pure rfl rfl (p_moveL rfl) ?_
              refine VR.pure rfl rfl (p_moveI rfl) ?_
              refine VR.pure rfl rfl (p_moveL rfl) ?_
              refine VR.pure rfl rfl (p_moveI rfl) ?_
              refine VR.pure rfl rfl (p_idx1 Try.underlying48 Try.sizeOf36 rfl rfl hk') ?_
              refine VR.val rfl rfl (r_load (v := .slice _ _ _) Try.isAgg36 rfl (hm.fix _ _ hb) hck) ?_
              refine VR.pure rfl rfl (p_moveL rfl) ?_
              refine VR.appendK (s := 1) (bytes := 16) Try.underlying36 inf9 rfl rfl rfl rfl rfl rfl rfl rfl rfl hm ho1 hmr hone rfl (by omega) ⟨by unfold maxLen; omega, by omega⟩ ?_
              intro A' c' w L' ho' hm
              refine VR.pure rfl rfl (p_idx1 Try.underlying48 Try.sizeOf36 rfl rfl hk') ?_
              replace hm := (show Mem F w ((L' ++ L1) :: (Ms.eraseIdx k ++ ([(gm, .cells cur 9 (0, 0))] :: [(gb, .cells gcur 36 (0, 0))] :: Ls))) from hm.flat (by simp)).permF (bring2_perm _ _ _ _ _)
              refine VR.store (cs' := (lay gcur (0 + k) [.slice A' (it.n + 64) c'])) (v := .slice _ _ _) Try.sizeOf36 rfl rfl rfl rfl rfl hm 0 0 rfl (by omega) rfl ?_
              intro w hm
              refine VR.nil ?_
              have hfn : FnT k it ⟨A', it.n + 64, c'⟩ 0 (L' ++ L1) := ⟨by simp, fun H hH => by
                have h1 := ho'.cut
                rw [List.take_left' (mm_len (mkT_len k) it.n)] at h1
                exact ⟨ho1.row1 fun p hp => hH p (List.mem_append_right _ hp), h1.row1 fun p hp => hH p (List.mem_append_left _ hp)⟩⟩
              obtain ⟨s, hs1, hs2⟩ := hend _ _ _ _ hm hfn
              repeat (first | refine VC.seq ?_ | refine VC.block ?_ | refine VC.skip ?_)
              refine VC.region ?_
              refine VR.pure rfl rfl (p_moveI rfl) ?_
              refine VR.pure rfl rfl (p_add64 rfl rfl (by omega)) ?_
              refine VR.pure rfl rfl (p_assignI rfl) ?_
              refine VR.nil ?_
              exact ⟨s, ⟨rfl, rfl, by rw [hs1]; rfl, trivial⟩, hs2, by omega⟩
        · repeat (first | refine VC.seq ?_ | refine VC.block ?_ | refine VC.skip ?_)
          refine VC.exit ?_
          have hkm : k = m := by omega
          replace hall : All its Ms (fun j (it : Sl) L => FnT j it (gsl j) 0 L) := hall.imp fun j (it : Sl) L hj h => by
            rw [if_pos (by have := (List.getElem?_eq_some_iff.1 hj).1; omega)] at h
            exact h
          rw [hkm] at hgl
          clear hk h hkm
          -- the last loop: all are looked at again
          have hE := hm.all
          have hFE : F.le (F.plus (Ms ++ ([(gb, .cells gcur 36 (0, 0))] :: Ls))) := hm.le
          have hgbE : (F.plus (Ms ++ ([(gb, .cells gcur 36 (0, 0))] :: Ls))).heap gb = some (.cells gcur 36 (0, 0)) := hm.plus_mem (List.mem_append_right _ (.head _)) _ (.head _)
          have hreads : ∀ (j : Nat) (it : Sl), its[j]? = some it → it.n ≤ (gsl j).n ∧ Row (F.plus (Ms ++ ([(gb, .cells gcur 36 (0, 0))] :: Ls))).heap it.A it.n (mm (mkT j) it.n) ∧ Row (F.plus (Ms ++ ([(gb, .cells gcur 36 (0, 0))] :: Ls))).heap (gsl j).A it.n (mm (mkT j) it.n) := fun j it hj => by
            obtain ⟨L, hL, hg⟩ := hall.get hj
            exact ⟨hg.1, hg.2 _ (hm.plus_k hL)⟩
          have hback : ∀ w', Mem (F.plus (Ms ++ ([(gb, .cells gcur 36 (0, 0))] :: Ls))) w' [] → Mem F w' (Ms ++ ([(gb, .cells gcur 36 (0, 0))] :: Ls)) := fun w' h => hm.back0 h
          clear hm
          generalize F.plus (Ms ++ ([(gb, .cells gcur 36 (0, 0))] :: Ls)) = E at hE hgbE hreads hFE hback
          have hrE := hr.mono hFE
          repeat (first | refine VC.seq ?_ | refine VC.block ?_ | refine VC.skip ?_)
          refine VC.region ?_
          refine VR.pure rfl rfl (p_assignI rfl) ?_
          refine VR.nil ?_
          repeat (first | refine VC.seq ?_ | refine VC.block ?_ | refine VC.skip ?_)
          refine VC.loop (σ := Nat) (fun k => [(0, .slice O m d), (5, .slice (some ⟨gb, 0, none⟩) m m), (14, .int .i64 k)]) (fun k w => k ≤ m ∧ Mem E w []) (fun k => m - k) 0 ⟨rfl, rfl, rfl, trivial⟩ ⟨by omega, hE⟩ ?_
          clear hE
          rintro k A' w ⟨hk, hm⟩
          repeat (first | refine VC.seq ?_ | refine VC.block ?_ | refine VC.skip ?_)
          refine VC.region ?_
          refine VR.pure rfl rfl (p_moveI rfl) ?_
          refine VR.pure rfl rfl (p_moveL rfl) ?_
          refine VR.pure rfl rfl (p_len Try.underlying48 rfl) ?_
          refine VR.pure rfl rfl (p_lt rfl rfl) ?_
          refine VR.nil ?_
          repeat (first | refine VC.seq ?_ | refine VC.block ?_ | refine VC.skip ?_)
          refine VC.condD rfl (fun h => ?_) (fun h => ?_)
          · have hk' : k < m := by omega
            obtain ⟨it, hit, _⟩ := get_of (xs := its) (k := k) (by omega)
            have hsm := hsmall k it hit
            obtain ⟨hgn, hr1, hr2⟩ := hreads k it hit
            have hgk0 : gcur[0 + k]? = some (.slice (gsl k).A (gsl k).n (gsl k).c) := by rw [Nat.zero_add]; exact hgl k hk'
            obtain ⟨b, off, blk, T, fr, rfl, hb, hc⟩ := Row.get hrE (by omega)
            have hck := (hc k hk').trans (slcell_at hit)
            repeat (first | refine VC.seq ?_ | refine VC.block ?_ | refine VC.skip ?_)
            repeat (first | refine VC.seq ?_ | refine VC.block ?_ | refine VC.skip ?_)
            refine VC.region ?_
            refine VR.pure rfl rfl (p_assignI rfl) ?_
            refine VR.nil ?_
            repeat (first | refine VC.seq ?_ | refine VC.block ?_ | refine VC.skip ?_)
            refine VC.loop (σ := Nat) (fun i => [(0, .slice (some ⟨b, off, none⟩) m d), (5, .slice (some ⟨gb, 0, none⟩) m m), (14, .int .i64 k), (15, .int .i64 i)]) (fun i w => i ≤ it.n ∧ Mem E w []) (fun i => it.n - i) 0 ⟨rfl, rfl, rfl, rfl, trivial⟩ ⟨by omega, hm⟩ ?_
            clear hm
            rintro i A' w ⟨hi, hm⟩
            repeat (first | refine VC.seq ?_ | refine VC.block ?_ | refine VC.skip ?_)
            refine VC.region ?_
            refine VR.pure rfl rfl (p_moveI rfl) ?_
            refine VR.pure rfl rfl (p_moveL rfl) ?_
            refine VR.pure rfl rfl (p_moveI rfl) ?_
            refine VR.pure rfl rfl (p_idx1 Try.underlying48 Try.sizeOf36 rfl rfl hk') ?_
            refine VR.val rfl rfl (r_load (v := .slice _ _ _) Try.isAgg36 rfl (hm.fix _ _ hb) hck) ?_
            refine VR.pure rfl rfl (p_len Try.underlying36 rfl) ?_
            refine VR.pure rfl rfl (p_lt rfl rfl) ?_
            refine VR.nil ?_
            repeat (first | refine VC.seq ?_ | refine VC.block ?_ | refine VC.skip ?_)
            refine VC.condD rfl (fun h2 => ?_) (fun h2 => ?_)
            · have hi' : i < it.n := by omega
              repeat (first | refine VC.seq ?_ | refine VC.block ?_ | refine VC.skip ?_)
              generalize gsl k = gk at hgk0 hgn hr2
              obtain ⟨gA, gn, gc⟩ := gk
              dsimp only at hgk0 hgn hr2
              obtain ⟨A, n, c⟩ := it
              dsimp only at hi' hgn hr1 hr2 hck hsm ⊢
              obtain ⟨bg, offg, blkg, Tg, frg, rfl, hbg, hcg⟩ := Row.get hr2 (by omega)
              obtain ⟨bl, offl, blkl, Tl, frl, rfl, hbl, hcl⟩ := Row.get hr1 (by omega)
              have hcgi := (hcg i hi').trans (mmT_at (k := k) hi')
              have hcli := (hcl i hi').trans (mmT_at (k := k) hi')
              repeat (first | refine VC.seq ?_ | refine VC.block ?_ | refine VC.skip ?_)
              refine VC.loud (Kept E []) [9, 22] rfl (by kernel_rfl) (Kept.of0 hm.drew) ?_
              replace hm := hm.drew
              refine VL.pure rfl rfl rfl (p_moveL rfl) ?_
              refine VL.pure rfl rfl rfl (p_moveI rfl) ?_
              refine VL.pure rfl rfl rfl (p_idx1 Try.underlying48 Try.sizeOf36 rfl rfl hk') ?_
              refine VL.read rfl rfl rfl (fun w' hw' => r_load (v := .slice _ _ _) Try.isAgg36 rfl (hw'.fix _ _ hb) hck) ?_
              refine VL.pure rfl rfl rfl (p_moveI rfl) ?_
              refine VL.pure rfl rfl rfl (p_idx1 Try.underlying36 Try.sizeOf9 rfl rfl hi') ?_
              refine VL.read rfl rfl rfl (fun w' hw' => r_load (v := .string _) Try.isAgg9 rfl (hw'.fix _ _ hbl) hcli) ?_
              refine VL.pure rfl rfl rfl (p_moveI rfl) ?_
              refine VL.pure rfl rfl rfl (p_moveI rfl) ?_
              refine VL.call rfl rfl rfl (r_call2 Try.call108 rfl rfl) (markText_c hm (by omega)) ?_
              rintro _ w ⟨rfl, hm⟩
              refine ⟨Kept.of0 hm, ?_⟩
              refine VL.pure rfl rfl rfl (p_eqS rfl rfl) ?_
              refine VL.pure rfl rfl rfl (p_notD rfl) ?_
              refine VL.pure rfl rfl rfl (p_moveB rfl) ?_
              refine VL.knownF 179 rfl (decide_eq_false (not_not_intro rfl)) ?_
              refine VL.pureG rfl rfl rfl (p_moveL rfl) ?_
              refine VL.pureG rfl rfl rfl (p_moveI rfl) ?_
              refine VL.pureG rfl rfl rfl (p_idx1 Try.underlying48 Try.sizeOf36 rfl rfl hk') ?_
              refine VL.readG rfl rfl rfl (fun w' hw' => r_load (v := .slice _ _ _) Try.isAgg36 rfl (hw'.fix _ _ hgbE) hgk0) ?_
              refine VL.pureG rfl rfl rfl (p_moveI rfl) ?_
              refine VL.pureG rfl rfl rfl (p_idx1 Try.underlying36 Try.sizeOf9 rfl rfl (by omega : i < gn)) ?_
              refine VL.readG rfl rfl rfl (fun w' hw' => r_load (v := .string _) Try.isAgg9 rfl (hw'.fix _ _ hbg) hcgi) ?_
              refine VL.pureG rfl rfl rfl (p_moveI rfl) ?_
              refine VL.pureG rfl rfl rfl (p_moveI rfl) ?_
              refine VL.callG rfl rfl rfl (r_call2 Try.call108 rfl rfl) (markText_c hm (by omega)) ?_
              rintro _ w ⟨rfl, hm⟩
              refine ⟨Kept.of0 hm, ?_⟩
              refine VL.pureG rfl rfl rfl (p_eqS rfl rfl) ?_
              refine VL.pureG rfl rfl rfl (p_notD rfl) ?_
              refine VL.pure rfl rfl rfl (p_pickF rfl rfl) ?_
              refine VL.nil ?_
              repeat (first | refine VC.seq ?_ | refine VC.block ?_ | refine VC.skip ?_)
              refine VC.condF rfl (decide_eq_false (not_not_intro rfl)) ?_
              repeat (first | refine VC.seq ?_ | refine VC.block ?_ | refine VC.skip ?_)
              repeat (first | refine VC.seq ?_ | refine VC.block ?_ | refine VC.skip ?_)
              refine VC.region ?_
              refine VR.pure rfl rfl (p_moveI rfl) ?_
              refine VR.pure rfl rfl (p_add64 rfl rfl (by omega)) ?_
              refine VR.pure rfl rfl (p_assignI rfl) ?_
              refine VR.nil ?_
              exact ⟨i + 1, ⟨rfl, rfl, rfl, rfl, trivial⟩, ⟨by omega, hm⟩, by omega⟩
            · repeat (first | refine VC.seq ?_ | refine VC.block ?_ | refine VC.skip ?_)
              refine VC.exit ?_
              repeat (first | refine VC.seq ?_ | refine VC.block ?_ | refine VC.skip ?_)
              refine VC.region ?_
              refine VR.pure rfl rfl (p_moveI rfl) ?_
              refine VR.pure rfl rfl (p_add64 rfl rfl (by omega)) ?_
              refine VR.pure rfl rfl (p_assignI rfl) ?_
              refine VR.nil ?_
              exact ⟨k + 1, ⟨rfl, rfl, rfl, trivial⟩, ⟨by omega, hm⟩, by omega⟩
          · repeat (first | refine VC.seq ?_ | refine VC.block ?_ | refine VC.skip ?_)
            refine VC.exit ?_
            repeat (first | refine VC.seq ?_ | refine VC.block ?_ | refine VC.skip ?_)
            refine VC.region ?_
            refine VR.pure rfl rfl (p_assignB rfl) ?_
            refine VR.nil ?_
            repeat (first | refine VC.seq ?_ | refine VC.block ?_ | refine VC.skip ?_)
            refine VC.ret ⟨_, ResOf.r1 (v := .bool _) rfl rfl, ?_⟩
            exact ⟨rfl, (hback _ hm).subF (drop_all _ _ _)⟩
end Go.Bd
