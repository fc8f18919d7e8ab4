/- LinkDoes: whatever is done to a link, it answers just as the document tells; loads stay. Conditions: none. -/
import Derived.Test.Ytfaihpikeagpcaa10k
import Derived.Test.Ytfaihpikeagpcaa10o
namespace Go.Bd
open Go.Proofs Go.ChangeShapes Go.WideShapes
set_option linter.unusedVariables false
set_option linter.unusedSimpArgs false
set_option maxRecDepth 20000

/-- A deed as it lies. -/
structure Dd where
  kind : Int
  A : Option Addr
  n : Nat
  c : Nat
  load : List Int
  p : Pk
  B : Option Addr
  m : Nat
  d : Nat
  inc : Int
def Dd.cells (x : Dd) : List Value := [.int .i64 x.kind, .slice x.A x.n x.c, .int .i64 x.p.from_, .int .i64 x.p.to, .int .i64 x.p.seq, .int .i64 x.p.ack, .slice x.B x.m x.d, .int .i64 x.inc]
theorem Dd.len (x : Dd) : x.cells.length = 8 := rfl
theorem Dd.pk_at (x : Dd) : ∀ j, j < 5 → x.cells[2 + j]? = [Value.int .i64 x.p.from_, .int .i64 x.p.to, .int .i64 x.p.seq, .int .i64 x.p.ack, .slice x.B x.m x.d][j]? := fun j hj =>
  match j, hj with
  | 0, _ => rfl
  | 1, _ => rfl
  | 2, _ => rfl
  | 3, _ => rfl
  | 4, _ => rfl
def DdOk (H : Nat → Option Obj) (x : Dd) : Prop := BRow H x.A x.n x.load ∧ x.n ≤ 140737488355328 ∧ BRow H x.B x.m x.p.load ∧ x.m ≤ 140737488355328

theorem open_deed {H : Type} {enc : TypeId × Value → H} {W : World} (n : Nat) (cs : List Value) (y : DataW H × List MemPlace) (h : DataW.trod enc Try.prog W 0 (fun _ => true) true n 60 cs = some y) (hw : Light Try.prog 60 y.1) :
    ∃ x : Dd, cs = x.cells ∧ DdOk (Env.of W).heap x := by
  obtain ⟨a0, A, n, c, xs, q0, q1, q2, q3, B, m, d, ys, inc, rfl, _, h1, _, h2, h3, _, _, _, _, _, h4, _, h5, h6, _, _⟩ := op60 _ _ _ h hw
  unfold reachBytes at h2 h5
  exact ⟨⟨a0, A, n, c, xs, ⟨q0, q1, q2, q3, ys⟩, B, m, d, inc⟩, rfl, h3, by simp only; omega, h6, by simp only; omega⟩

theorem perm5 (a b d e f : Blks) : (a :: b :: d :: e :: f :: []).flatten.Perm (e :: f :: d :: a :: b :: []).flatten := by
  simp only [List.flatten_cons, List.flatten_nil, List.append_nil]
  have h1 : (a ++ (b ++ (d ++ (e ++ f)))).Perm ((d ++ (e ++ f)) ++ (a ++ b)) := by
    have := List.perm_append_comm (l₁ := a ++ b) (l₂ := d ++ (e ++ f))
    simpa only [List.append_assoc] using this
  have h2 : ((d ++ (e ++ f)) ++ (a ++ b)).Perm (((e ++ f) ++ d) ++ (a ++ b)) := (List.perm_append_comm).append_right _
  have := h1.trans h2
  simpa only [List.append_assoc] using this
theorem neB_same {p q : Prop} [Decidable p] [Decidable q] (h : p ↔ q) : (!(decide p == decide q)) = false := by simp [h]
/-- What a link has counted. -/
def Lk.upto (k : Lk) (i : Nat) : Prop := k.there ∧ 0 ≤ k.acked ∧ k.acked ≤ i ∧ 0 ≤ k.got ∧ k.got ≤ i
theorem Lk.upto.ok {k : Lk} {i : Nat} (h : k.upto i) (hi : i < 1000) : k.ok := by
  unfold Lk.upto at h
  unfold Lk.ok
  omega
theorem Lk.upto.send {k : Lk} {i : Nat} (h : k.upto i) (l : List Int) : (k.send l).2.upto (i + 1) := by
  unfold Lk.upto Lk.there at *
  unfold Lk.send
  split
  · simp only; omega
  split
  · simp only; omega
  split
  · simp only; omega
  split
  · simp only; omega
  · simp only; omega
theorem Lk.upto.reset {k : Lk} {i : Nat} (h : k.upto i) (inc : Int) : (k.reset inc).upto (i + 1) := by
  unfold Lk.upto Lk.there at *
  unfold Lk.reset
  split
  · simp only; omega
  · omega
theorem meet_upto {k : Lk} {i : Nat} (p : Pk) (h : k.upto i) : (k.meet p).1.upto i := by
  unfold Lk.upto Lk.there at *
  unfold Lk.meet
  split
  · split <;> (simp only; omega)
  · simp only; omega
theorem done_upto {k : Lk} {i : Nat} (p : Pk) (h : k.upto i) : (k.done p).there ∧ 0 ≤ (k.done p).acked ∧ (k.done p).acked ≤ i + 1 ∧ 0 ≤ (k.done p).got ∧ (k.done p).got ≤ i := by
  unfold Lk.upto Lk.there at *
  unfold Lk.done
  split
  · simp only; omega
  · omega
theorem Lk.upto.take {k : Lk} {i : Nat} (h : k.upto i) (p : Pk) : (k.take p).2.2.upto (i + 1) := by
  have h1 := meet_upto p h
  have h2 := done_upto p h1
  unfold Lk.take
  unfold Lk.upto Lk.there at *
  split
  · simp only; omega
  split
  · simp only; omega
  split
  · simp only; omega
  · simp only; omega

set_option maxHeartbeats 8000000 in
theorem link_does_c {F : Env} {w : World} {inc : Int} {A : Option Addr} {n c : Nat} {xs : List Dd} (hm : Mem F w []) (hr : Row F.heap A (n * 8) (xs.flatMap Dd.cells)) (hx : ∀ x ∈ xs, DdOk F.heap x) :
    Calls Try.prog 6 #[.int .i64 inc, .slice A n c] w (Ret fun v w' => v = .bool true ∧ Mem F w' []) := by
  have hlen : xs.length = n := by
    have := hr.len
    rw [flat_len Dd.len] at this
    omega
  refine Calls.of_vc Try.func6 rfl Try.ntmps6 rfl ?_
  repeat (first | refine VC.seq ?_ | refine VC.block ?_ | refine VC.skip ?_)
  refine VC.region ?_
  refine VR.pure rfl rfl (p_assignB rfl) ?_
  refine VR.nil ?_
  repeat (first | refine VC.seq ?_ | refine VC.block ?_ | refine VC.skip ?_)
  refine VC.region ?_
  refine VR.call rfl rfl (r_call0 Try.call8) (awake_c hm) ?_
  rintro _ w ⟨rfl, hm⟩
  refine VR.pure rfl rfl (p_not rfl) ?_
  refine VR.nil ?_
  repeat (first | refine VC.seq ?_ | refine VC.block ?_ | refine VC.skip ?_)
  refine VC.condF rfl rfl ?_
  repeat (first | refine VC.seq ?_ | refine VC.block ?_ | refine VC.skip ?_)
  refine VC.region ?_
  refine VR.pure rfl rfl (p_moveL rfl) ?_
  refine VR.pure rfl rfl (p_len Try.underlying55 rfl) ?_
  refine VR.pure rfl rfl (p_gt rfl rfl) ?_
  refine VR.nil ?_
  repeat (first | refine VC.seq ?_ | refine VC.block ?_ | refine VC.skip ?_)
  refine VC.condD rfl (fun h300 => ?_) (fun h300 => ?_)
  · repeat (first | refine VC.seq ?_ | refine VC.block ?_ | refine VC.skip ?_)
    refine VC.region ?_
    refine VR.pure rfl rfl (p_assignB rfl) ?_
    refine VR.nil ?_
    repeat (first | refine VC.seq ?_ | refine VC.block ?_ | refine VC.skip ?_)
    refine VC.ret ⟨_, ResOf.r1 (v := .bool _) rfl rfl, ?_⟩
    exact ⟨rfl, hm⟩
  by_cases hinc : 1 ≤ inc ∧ inc ≤ 1099511627776
  · repeat (first | refine VC.seq ?_ | refine VC.block ?_ | refine VC.skip ?_)
    refine VC.region ?_
    refine VR.pure rfl rfl (p_moveI rfl) ?_
    refine VR.call rfl rfl (r_call1 Try.call15 rfl) (new_ok hm hinc) ?_
    rintro _ w ⟨g1, rfl, hm⟩
    refine VR.pure rfl rfl (p_assignP rfl) ?_
    refine VR.nil ?_
    repeat (first | refine VC.seq ?_ | refine VC.block ?_ | refine VC.skip ?_)
    refine VC.region ?_
    refine VR.pure rfl rfl (p_moveI rfl) ?_
    refine VR.call rfl rfl (r_call1 Try.call21 rfl) (rnew_c hm) ?_
    rintro _ w ⟨g2, rfl, hm⟩
    refine VR.pure rfl rfl (p_moveT rfl) ?_
    refine VR.pure rfl rfl (p_extract rfl rfl) ?_
    refine VR.pure rfl rfl (p_extract rfl rfl) ?_
    refine VR.pure rfl rfl (p_assignP rfl) ?_
    refine VR.pure rfl rfl (p_assignB rfl) ?_
    refine VR.nil ?_
    repeat (first | refine VC.seq ?_ | refine VC.block ?_ | refine VC.skip ?_)
    refine VC.region ?_
    refine VR.pure rfl rfl (p_moveB rfl) ?_
    refine VR.pure rfl rfl (p_notD rfl) ?_
    refine VR.nil ?_
    repeat (first | refine VC.seq ?_ | refine VC.block ?_ | refine VC.skip ?_)
    refine VC.condF rfl (decide_eq_false (not_not_intro hinc)) ?_
    repeat (first | refine VC.seq ?_ | refine VC.block ?_ | refine VC.skip ?_)
    refine VC.region ?_
    refine VR.pure rfl rfl (p_assignI rfl) ?_
    refine VR.nil ?_
    repeat (first | refine VC.seq ?_ | refine VC.block ?_ | refine VC.skip ?_)
    refine VC.loop (σ := Nat) (fun i => [(1, .slice A n c), (5, .pointer (some ⟨g1, 0, none⟩)), (6, .pointer (some ⟨g2, 0, none⟩)), (8, .int .i64 i)])
      (fun i w => i ≤ n ∧ ∃ G k cs1 L1 cs2 L2, F.under G ∧ k.upto i ∧ LkAt G.heap k cs1 L1 ∧ RkAt G.heap k cs2 L2 ∧ Mem G w ([(g1, .cells cs1 33 (0, 0))] :: L1 :: [(g2, .cells cs2 65 (0, 0))] :: L2 :: [])) (fun i => n - i) 0
      ⟨rfl, rfl, rfl, rfl, trivial⟩ ⟨by omega, F, lk0 inc, _, [], _, [], Env.under_refl F, by unfold Lk.upto Lk.there lk0; simp only; omega, LkAt.new _ inc, RkAt.new _ inc, hm.other⟩ ?_
    clear hm
    rintro i A' w ⟨hi, G, k, cs1, L1, cs2, L2, hu, hup, hk1, hk2, hm⟩
    repeat (first | refine VC.seq ?_ | refine VC.block ?_ | refine VC.skip ?_)
    refine VC.region ?_
    refine VR.pure rfl rfl (p_moveI rfl) ?_
    refine VR.pure rfl rfl (p_moveL rfl) ?_
    refine VR.pure rfl rfl (p_len Try.underlying55 rfl) ?_
    refine VR.pure rfl rfl (p_lt rfl rfl) ?_
    refine VR.nil ?_
    repeat (first | refine VC.seq ?_ | refine VC.block ?_ | refine VC.skip ?_)
    refine VC.condD rfl (fun h => ?_) (fun h => ?_)
    · have hi' : i < n := by omega
      have ht := hup.1
      have hok := hup.ok (by omega)
      obtain ⟨x, hx0, hxm⟩ := get_of (xs := xs) (k := i) (by omega)
      have hxo := hx x hxm
      obtain ⟨b, off, blk, T, fr, rfl, hb, hc⟩ := hr.elem Dd.len (by decide) (by omega)
      have hcx := hc i x hx0
      repeat (first | refine VC.seq ?_ | refine VC.block ?_ | refine VC.skip ?_)
      refine VC.region ?_
      refine VR.pure rfl rfl (p_moveL rfl) ?_
      refine VR.pure rfl rfl (p_moveI rfl) ?_
      refine VR.pure rfl rfl (p_idxN Try.underlying55 Try.sizeOf60 rfl rfl hi') ?_
      refine VR.pure rfl rfl (p_field (fo := 0) Try.underlying60 rfl Try.sizeOf3 rfl rfl rfl) ?_
      refine VR.val rfl rfl (r_load (v := .int _ _) Try.isAgg3 rfl (hm.fix _ _ (hu.heap _ _ hb)) (hcx 0 (by decide))) ?_
      refine VR.call rfl rfl (r_call2 Try.call16 rfl rfl) (pick_c (by omega)) ?_
      rintro _ _ ⟨⟨q, hq, rfl⟩, rfl⟩
      refine VR.nil ?_
      refine VC.meet (σ := Unit) (fun _ => [(1, .slice (some ⟨b, off, none⟩) n c), (5, .pointer (some ⟨g1, 0, none⟩)), (6, .pointer (some ⟨g2, 0, none⟩)), (8, .int .i64 i)])
        (fun _ w => ∃ G k cs1 L1 cs2 L2, F.under G ∧ k.upto (i + 1) ∧ LkAt G.heap k cs1 L1 ∧ RkAt G.heap k cs2 L2 ∧ Mem G w ([(g1, .cells cs1 33 (0, 0))] :: L1 :: [(g2, .cells cs2 65 (0, 0))] :: L2 :: [])) ?_ ?_
      · refine VC.block ?_
        repeat (first | refine VC.seq ?_ | refine VC.block ?_ | refine VC.skip ?_)
        refine VC.region ?_
        refine VR.pure rfl rfl (p_eq rfl rfl) ?_
        refine VR.pure rfl rfl (p_assignB rfl) ?_
        refine VR.nil ?_
        have hA := hxo.1
        have hB := hxo.2.2.1
        have hlA := hA.len
        have hlB := hB.len
        have hn40 := hxo.2.1
        have hm40 := hxo.2.2.2
        repeat (first | refine VC.seq ?_ | refine VC.block ?_ | refine VC.skip ?_)
        refine VC.condD rfl (fun hq0 => ?_) (fun hq0 => ?_)
        · repeat (first | refine VC.seq ?_ | refine VC.block ?_ | refine VC.skip ?_)
          refine VC.region ?_
          refine VR.pure rfl rfl (p_moveL rfl) ?_
          refine VR.pure rfl rfl (p_moveI rfl) ?_
          refine VR.pure rfl rfl (p_idxN Try.underlying55 Try.sizeOf60 rfl rfl hi') ?_
          refine VR.pure rfl rfl (p_field (fo := 1) Try.underlying60 rfl Try.sizeOf22 rfl rfl rfl) ?_
          refine VR.val rfl rfl (r_load (v := .slice _ _ _) Try.isAgg22 rfl (hm.fix _ _ (hu.heap _ _ hb)) (hcx 1 (by decide))) ?_
          refine VR.call rfl rfl (r_call1 Try.call22 rfl) (lentB_c hm hn40 (hA.mono hu.heap)) ?_
          rintro _ w ⟨A9, c9, L9, rfl, ho9, hm⟩
          refine VR.pure rfl rfl (p_assignL rfl) ?_
          refine VR.nil ?_
          replace hm := hm.rot3.rot3
          have hle9 := ho9.le
          have hro : BRow (G.plus (L9 :: [(g2, .cells cs2 65 (0, 0))] :: L2 :: [])).heap A9 (x.n + 12) (x.load ++ marksB 12) := ho9.row1 (hm.pop.pop.plus_mem (.head _))
          have hro2 : BRow (G.plus (L9 :: [(g2, .cells cs2 65 (0, 0))] :: L2 :: [])).heap A9 x.n x.load := by
            have h1 := Row.take hro (k := x.n) (by omega)
            have e : (bytes (x.load ++ marksB 12)).take x.n = bytes x.load := by
              unfold bytes
              rw [← List.map_take, List.take_left' hlA]
            rwa [e] at h1
          repeat (first | refine VC.seq ?_ | refine VC.block ?_ | refine VC.skip ?_)
          refine VC.loud (Kept F []) [2, 9, 18] rfl (by kernel_rfl) (Kept.of0 (hm.drew.shrink hu)) ?_
          replace hm := hm.drew
          refine VL.pure rfl rfl rfl (p_moveP rfl) ?_
          refine VL.pure rfl rfl rfl (p_moveL rfl) ?_
          refine VL.call rfl rfl rfl (r_call2 Try.call10 rfl rfl) (send_p hm hk1 hro2) ?_
          rintro _ w ⟨G1, cs3, L3, rfl, hu1, hk1, hm⟩
          replace hu := hu.trans hu1
          refine ⟨Kept.of0 (hm.shrink hu), ?_⟩
          refine VL.pure rfl rfl rfl (p_moveP rfl) ?_
          refine VL.pure rfl rfl rfl (p_moveL rfl) ?_
          refine VL.pure rfl rfl rfl (p_moveI rfl) ?_
          refine VL.pure rfl rfl rfl (p_idxN Try.underlying55 Try.sizeOf60 rfl rfl hi') ?_
          refine VL.pure rfl rfl rfl (p_field (fo := 1) Try.underlying60 rfl Try.sizeOf22 rfl rfl rfl) ?_
          refine VL.read rfl rfl rfl (fun w' hw' => r_load (v := .slice _ _ _) Try.isAgg22 rfl (hw'.fix _ _ hb) (hcx 1 (by decide))) ?_
          replace hm := hm.permF (Ls' := [(g2, .cells cs2 65 (0, 0))] :: L2 :: L9 :: [(g1, .cells cs3 33 (0, 0))] :: L3 :: []) (perm5 _ _ _ _ _)
          refine VL.call rfl rfl rfl (r_call2 Try.call23 rfl rfl) (rsend_c hm (hk2.mono hu1.heap) ht (hA.mono hu.heap)) ?_
          rintro _ w ⟨G2, cs4, L4, rfl, hu2, hk2, hm⟩
          replace hu := hu.trans hu2
          refine ⟨Kept.of0 (hm.shrink hu), ?_⟩
          refine VL.pure rfl rfl rfl (p_ne rfl rfl) ?_
          refine VL.pure rfl rfl rfl (p_moveB rfl) ?_
          refine VL.knownF 78 rfl (decide_eq_false (not_not_intro rfl)) ?_
          refine VL.pureG rfl rfl rfl (p_moveL rfl) ?_
          refine VL.pureG rfl rfl rfl (p_moveL rfl) ?_
          refine VL.pureG rfl rfl rfl (p_moveI rfl) ?_
          refine VL.pureG rfl rfl rfl (p_idxN Try.underlying55 Try.sizeOf60 rfl rfl hi') ?_
          refine VL.pureG rfl rfl rfl (p_field (fo := 1) Try.underlying60 rfl Try.sizeOf22 rfl rfl rfl) ?_
          refine VL.readG rfl rfl rfl (fun w' hw' => r_load (v := .slice _ _ _) Try.isAgg22 rfl (hw'.fix _ _ hb) (hcx 1 (by decide))) ?_
          refine VL.callG rfl rfl rfl (r_call2 Try.call24 rfl rfl) (keptB_c hm.all hn40 (by omega) (ho9.row1 (hm.plus_mem (.tail _ (.tail _ (.head _))))) (hA.mono (Env.le_trans hu.heap hm.le))) ?_
          rintro _ w ⟨rfl, hm'⟩
          replace hm := hm.back0 hm'
          refine ⟨Kept.of0 (hm.shrink hu), ?_⟩
          refine VL.pureG rfl rfl rfl (p_not rfl) ?_
          refine VL.pure rfl rfl rfl (p_pickF rfl rfl) ?_
          refine VL.nil ?_
          repeat (first | refine VC.seq ?_ | refine VC.block ?_ | refine VC.skip ?_)
          refine VC.condF rfl rfl ?_
          replace hm := hm.rot3
          repeat (first | refine VC.seq ?_ | refine VC.block ?_ | refine VC.skip ?_)
          refine VC.region ?_
          refine VR.pure rfl rfl (p_moveL rfl) ?_
          refine VR.call rfl rfl (r_call1 Try.call25 rfl) (overB_c hm hn40 ho9) ?_
          rintro _ w hm
          refine VR.nil ?_
          exact ⟨(), ⟨rfl, rfl, rfl, rfl, trivial⟩, G2, (k.send x.load).2, cs3, L3, cs4, L4, hu, hup.send x.load, hk1.mono hu2.heap, hk2, hm.other⟩
        · repeat (first | refine VC.seq ?_ | refine VC.block ?_ | refine VC.skip ?_)
          refine VC.region ?_
          refine VR.pure rfl rfl (p_eq rfl rfl) ?_
          refine VR.pure rfl rfl (p_assignB rfl) ?_
          refine VR.nil ?_
          repeat (first | refine VC.seq ?_ | refine VC.block ?_ | refine VC.skip ?_)
          refine VC.condD rfl (fun hq1 => ?_) (fun hq1 => ?_)
          · repeat (first | refine VC.seq ?_ | refine VC.block ?_ | refine VC.skip ?_)
            refine VC.region ?_
            refine VR.pure rfl rfl (p_moveL rfl) ?_
            refine VR.pure rfl rfl (p_moveI rfl) ?_
            refine VR.pure rfl rfl (p_idxN Try.underlying55 Try.sizeOf60 rfl rfl hi') ?_
            refine VR.pure rfl rfl (p_field (fo := 2) Try.underlying60 rfl Try.sizeOf24 rfl rfl rfl) ?_
            refine VR.val rfl rfl (r_loadAgg (vs := [.int _ _, .int _ _, .int _ _, .int _ _, .slice _ _ _]) Try.isAgg24 Try.sizeOf24 rfl (hm.fix _ _ (hu.heap _ _ hb)) rfl (fun j hj => by rw [Nat.add_assoc (off + i * 8) 2 j, hcx (2 + j) (by omega)]; exact x.pk_at j hj)) ?_
            refine VR.call rfl rfl (r_call1 Try.call26 rfl) (lentP_c hm hm40 (hB.mono hu.heap)) ?_
            rintro _ w ⟨A9, c9, L9, rfl, ho9, hm⟩
            refine VR.new hm rfl rfl (n_allocG Try.zeroValue24) ?_
            intro b10 w hm
            refine VR.store (cs' := #[.int .i64 x.p.from_, .int .i64 x.p.to, .int .i64 x.p.seq, .int .i64 x.p.ack, .slice A9 x.m c9]) (v := .agg _) Try.sizeOf24 rfl rfl rfl rfl rfl hm 0 0 rfl (Nat.ble_eq.mp rfl) rfl ?_
            intro w hm
            refine VR.nil ?_
            have hle9 := ho9.le
            replace hm : Mem G w ([(b10, .cells #[.int .i64 x.p.from_, .int .i64 x.p.to, .int .i64 x.p.seq, .int .i64 x.p.ack, .slice A9 x.m c9] 24 (0, 0))] :: L9 :: [(g1, .cells cs1 33 (0, 0))] :: L1 :: [(g2, .cells cs2 65 (0, 0))] :: L2 :: []) := hm
            obtain ⟨G1, hu1, hm, hG1⟩ := hm.freeze
            obtain ⟨G2, hu2, hm, hG2⟩ := hm.freeze
            have hb10 := hu2.heap _ _ (hG1 _ (.head _))
            have hro : BRow G2.heap A9 (x.m + 12) (x.p.load ++ marksB 12) := ho9.row1 hG2
            have hro2 : BRow G2.heap A9 x.m x.p.load := by
              have h1 := Row.take hro (k := x.m) (by omega)
              have e : (bytes (x.p.load ++ marksB 12)).take x.m = bytes x.p.load := by
                unfold bytes
                rw [← List.map_take, List.take_left' hlB]
              rwa [e] at h1
            have hu12 := hu1.trans hu2
            replace hu := hu.trans hu12
            replace hk1 := hk1.mono hu12.heap
            replace hk2 := hk2.mono hu12.heap
            repeat (first | refine VC.seq ?_ | refine VC.block ?_ | refine VC.skip ?_)
            refine VC.region ?_
            refine VR.pure rfl rfl (p_moveP rfl) ?_
            refine VR.val rfl rfl (r_loadAgg (vs := [.int _ _, .int _ _, .int _ _, .int _ _, .slice _ _ _]) Try.isAgg24 Try.sizeOf24 rfl (hm.fix _ _ hb10) rfl (agg_at rfl)) ?_
            refine VR.call rfl rfl (r_call2 Try.call9 rfl rfl) (take_c hm hk1 hok hro2 (by omega)) ?_
            rintro _ w ⟨cs3, L3, A4, c4, M4, rfl, hk1, ho4, hm⟩
            refine VR.pure rfl rfl (p_moveT rfl) ?_
            refine VR.pure rfl rfl (p_extract rfl rfl) ?_
            refine VR.pure rfl rfl (p_extract rfl rfl) ?_
            refine VR.pure rfl rfl (p_extract rfl rfl) ?_
            refine VR.pure rfl rfl (p_assignL rfl) ?_
            refine VR.pure rfl rfl (p_assignB rfl) ?_
            refine VR.pure rfl rfl (p_assignB rfl) ?_
            refine VR.nil ?_
            obtain ⟨G3, hu3, hm, hG3⟩ := hm.freeze
            have hr4 : BRow G3.heap A4 _ _ := ho4.row1 hG3
            replace hu := hu.trans hu3
            repeat (first | refine VC.seq ?_ | refine VC.block ?_ | refine VC.skip ?_)
            refine VC.region ?_
            refine VR.pure rfl rfl (p_moveP rfl) ?_
            refine VR.pure rfl rfl (p_moveL rfl) ?_
            refine VR.pure rfl rfl (p_moveI rfl) ?_
            refine VR.pure rfl rfl (p_idxN Try.underlying55 Try.sizeOf60 rfl rfl hi') ?_
            refine VR.pure rfl rfl (p_field (fo := 2) Try.underlying60 rfl Try.sizeOf24 rfl rfl rfl) ?_
            refine VR.val rfl rfl (r_loadAgg (vs := [.int _ _, .int _ _, .int _ _, .int _ _, .slice _ _ _]) Try.isAgg24 Try.sizeOf24 rfl (hm.fix _ _ (hu.heap _ _ hb)) rfl (fun j hj => by rw [Nat.add_assoc (off + i * 8) 2 j, hcx (2 + j) (by omega)]; exact x.pk_at j hj)) ?_
            refine VR.call rfl rfl (r_call2 Try.call27 rfl rfl) (rtake_c hm.other (hk2.mono hu3.heap) hok ht (hB.mono hu.heap) (by omega)) ?_
            rintro _ w ⟨cs5, L5, A5, c5, M5, rfl, hk2, ho5, hm⟩
            refine VR.pure rfl rfl (p_moveT rfl) ?_
            refine VR.pure rfl rfl (p_extract rfl rfl) ?_
            refine VR.pure rfl rfl (p_extract rfl rfl) ?_
            refine VR.pure rfl rfl (p_extract rfl rfl) ?_
            refine VR.pure rfl rfl (p_assignL rfl) ?_
            refine VR.pure rfl rfl (p_assignB rfl) ?_
            refine VR.pure rfl rfl (p_assignB rfl) ?_
            refine VR.nil ?_
            obtain ⟨G4, hu4, hm, hG4⟩ := hm.freeze
            have hr5 : BRow G4.heap A5 _ _ := ho5.row1 hG4
            replace hu := hu.trans hu4
            have hu34 := hu3.trans hu4
            have htl : ((k.take x.p).1.getD []).length ≤ maxLen := by
              have := hr5.len
              have h5 := ho5.le
              omega
            repeat (first | refine VC.seq ?_ | refine VC.block ?_ | refine VC.skip ?_)
            refine VC.loud (Kept G4 []) [11, 21] rfl (by kernel_rfl) (Kept.of0 hm.drew) ?_
            replace hm := hm.drew
            refine VL.pure rfl rfl rfl (p_moveB rfl) ?_
            refine VL.pure rfl rfl rfl (p_moveB rfl) ?_
            refine VL.pure rfl rfl rfl (p_neB Try.underlying4 rfl rfl) ?_
            refine VL.pure rfl rfl rfl (p_moveB rfl) ?_
            refine VL.knownF 119 rfl (by simp) ?_
            refine VL.pureG rfl rfl rfl (p_moveB rfl) ?_
            refine VL.pureG rfl rfl rfl (p_moveB rfl) ?_
            refine VL.pureG rfl rfl rfl (p_neB Try.underlying4 rfl rfl) ?_
            refine VL.pure rfl rfl rfl (p_pickF rfl rfl) ?_
            refine VL.pure rfl rfl rfl (p_moveB rfl) ?_
            refine VL.knownF 124 rfl (by simp) ?_
            refine VL.pureG rfl rfl rfl (p_moveL rfl) ?_
            refine VL.pureG rfl rfl rfl (p_moveL rfl) ?_
            refine VL.callG rfl rfl rfl (r_call2 Try.call19 rfl rfl) (same_bytes_c hm htl (hr4.mono hu4.heap) hr5) ?_
            rintro _ w ⟨rfl, hm⟩
            refine ⟨Kept.of0 hm, ?_⟩
            refine VL.pureG rfl rfl rfl (p_notD rfl) ?_
            refine VL.pure rfl rfl rfl (p_pickF rfl rfl) ?_
            refine VL.pure rfl rfl rfl (p_moveB rfl) ?_
            refine VL.knownF 130 rfl (decide_eq_false (not_not_intro rfl)) ?_
            refine VL.readG rfl rfl rfl (fun w' hw' => r_loadAgg (vs := [.int _ _, .int _ _, .int _ _, .int _ _, .slice _ _ _]) Try.isAgg24 Try.sizeOf24 rfl (hw'.fix _ _ (hu34.heap _ _ hb10)) rfl (agg_at rfl)) ?_
            refine VL.pureG rfl rfl rfl (p_moveL rfl) ?_
            refine VL.pureG rfl rfl rfl (p_moveI rfl) ?_
            refine VL.pureG rfl rfl rfl (p_idxN Try.underlying55 Try.sizeOf60 rfl rfl hi') ?_
            refine VL.pureG rfl rfl rfl (p_field (fo := 2) Try.underlying60 rfl Try.sizeOf24 rfl rfl rfl) ?_
            refine VL.readG rfl rfl rfl (fun w' hw' => r_loadAgg (vs := [.int _ _, .int _ _, .int _ _, .int _ _, .slice _ _ _]) Try.isAgg24 Try.sizeOf24 rfl (hw'.fix _ _ (hu.heap _ _ hb)) rfl (fun j hj => by rw [Nat.add_assoc (off + i * 8) 2 j, hcx (2 + j) (by omega)]; exact x.pk_at j hj)) ?_
            refine VL.callG rfl rfl rfl (r_call2 Try.call28 rfl rfl) (keptP_c hm hm40 (by omega) (hro.mono hu34.heap) (hB.mono hu.heap)) ?_
            rintro _ w ⟨rfl, hm⟩
            refine ⟨Kept.of0 hm, ?_⟩
            refine VL.pureG rfl rfl rfl (p_not rfl) ?_
            refine VL.pure rfl rfl rfl (p_pickF rfl rfl) ?_
            refine VL.nil ?_
            repeat (first | refine VC.seq ?_ | refine VC.block ?_ | refine VC.skip ?_)
            refine VC.condF rfl rfl ?_
            repeat (first | refine VC.seq ?_ | refine VC.block ?_ | refine VC.skip ?_)
            exact ⟨(), ⟨rfl, rfl, rfl, rfl, trivial⟩, G4, (k.take x.p).2.2, cs3, L3, cs5, L5, hu, hup.take x.p, hk1.mono hu34.heap, hk2.mono hu4.heap, hm.other⟩
          · repeat (first | refine VC.seq ?_ | refine VC.block ?_ | refine VC.skip ?_)
            refine VC.region ?_
            refine VR.pure rfl rfl (p_moveP rfl) ?_
            refine VR.pure rfl rfl (p_moveL rfl) ?_
            refine VR.pure rfl rfl (p_moveI rfl) ?_
            refine VR.pure rfl rfl (p_idxN Try.underlying55 Try.sizeOf60 rfl rfl hi') ?_
            refine VR.pure rfl rfl (p_field (fo := 7) Try.underlying60 rfl Try.sizeOf3 rfl rfl rfl) ?_
            refine VR.val rfl rfl (r_load (v := .int _ _) Try.isAgg3 rfl (hm.fix _ _ (hu.heap _ _ hb)) (hcx 7 (by decide))) ?_
            refine VR.call rfl rfl (r_call2 Try.call29 rfl rfl) (reset_c hm hk1 ht) ?_
            rintro _ w ⟨cs3, L3, hk1, hm⟩
            refine VR.nil ?_
            repeat (first | refine VC.seq ?_ | refine VC.block ?_ | refine VC.skip ?_)
            refine VC.region ?_
            refine VR.pure rfl rfl (p_moveP rfl) ?_
            refine VR.pure rfl rfl (p_moveL rfl) ?_
            refine VR.pure rfl rfl (p_moveI rfl) ?_
            refine VR.pure rfl rfl (p_idxN Try.underlying55 Try.sizeOf60 rfl rfl hi') ?_
            refine VR.pure rfl rfl (p_field (fo := 7) Try.underlying60 rfl Try.sizeOf3 rfl rfl rfl) ?_
            refine VR.val rfl rfl (r_load (v := .int _ _) Try.isAgg3 rfl (hm.fix _ _ (hu.heap _ _ hb)) (hcx 7 (by decide))) ?_
            refine VR.call rfl rfl (r_call2 Try.call30 rfl rfl) (rreset_c hm.other hk2) ?_
            rintro _ w ⟨cs4, L4, hk2, hm⟩
            refine VR.nil ?_
            exact ⟨(), ⟨rfl, rfl, rfl, rfl, trivial⟩, G, k.reset x.inc, cs3, L3, cs4, L4, hu, hup.reset x.inc, hk1, hk2, hm.other⟩
      · clear hm hk1 hk2 hup hok ht hu
        rintro _ A' w ⟨G, k, cs1, L1, cs2, L2, hu, hup, hk1, hk2, hm⟩
        have ht := hup.1
        have hok := hup.ok (by omega)
        have hk20 := hk2
        obtain ⟨A6, n6, c6, ws6, rfl, ho6, hws6, hwo6⟩ := hk2
        have hl6 := bcells_len ho6
        have hw6 : k.wait.length = n6 := by rw [← hws6, List.length_map, hl6]
        repeat (first | refine VC.seq ?_ | refine VC.block ?_ | refine VC.skip ?_)
        refine VC.loud (Kept G [[(g2, .cells #[.int .i64 k.inc, .int .i64 k.peer, .slice A6 n6 c6, .int .i64 k.acked, .int .i64 k.got] 65 (0, 0))]]) [1, 3, 4, 8, 18] rfl (by kernel_rfl) (Kept.one hm.drew 2 rfl) ?_
        replace hm := hm.drew
        refine VL.pure rfl rfl rfl (p_moveP rfl) ?_
        refine VL.call rfl rfl rfl (r_call1 Try.call14 rfl) (out_c hm hk1 hok) ?_
        rintro _ w ⟨A7, c7, M7, rfl, ho7, hm⟩
        obtain ⟨G1, hu1, hm, hG1⟩ := hm.freeze
        replace hm := hm.other
        refine ⟨Kept.one (hm.shrink hu1) 0 rfl, ?_⟩
        refine VL.pure rfl rfl rfl (p_moveP rfl) ?_
        refine VL.call rfl rfl rfl (r_call1 Try.call31 rfl) (rout_c hm (hk20.mono hu1.heap) hok ht) ?_
        rintro _ w ⟨A8, c8, M8, rfl, ho8, hm⟩
        obtain ⟨G2, hu2, hm, hG2⟩ := hm.freeze
        have hu12 := hu1.trans hu2
        refine ⟨Kept.one (hm.shrink hu12) 0 rfl, ?_⟩
        have hle7 := ho7.le
        refine VL.call rfl rfl rfl (r_call2 Try.call13 rfl rfl) (same_packet_c (p := k.out) (q := k.out) hm (by omega) ((ho7.row1 hG1).mono hu2.heap) (ho8.row1 hG2)) ?_
        rintro _ w ⟨rfl, hm⟩
        refine ⟨Kept.one (hm.shrink hu12) 0 rfl, ?_⟩
        refine VL.pure rfl rfl rfl (p_notD rfl) ?_
        refine VL.pure rfl rfl rfl (p_moveB rfl) ?_
        refine VL.knownF 146 rfl (decide_eq_false (not_not_intro rfl)) ?_
        refine VL.pureG rfl rfl rfl (p_moveP rfl) ?_
        replace hm := hm.other
        replace hk1 := hk1.mono hu12.heap
        refine VL.callG rfl rfl rfl (r_call1 Try.call12 rfl) (waiting_c hm hk1) ?_
        rintro _ _ ⟨rfl, rfl⟩
        refine ⟨Kept.one (hm.shrink hu12) 2 rfl, ?_⟩
        refine VL.pureG rfl rfl rfl (p_moveP rfl) ?_
        refine VL.pureG rfl rfl rfl (p_nilCheck rfl) ?_
        refine VL.pureG rfl rfl rfl (p_field (fo := 2) Try.underlying65 rfl Try.sizeOf29 rfl rfl rfl) ?_
        refine VL.readG rfl rfl rfl (fun w' hw' => r_load (v := .slice _ _ _) Try.isAgg29 rfl (hw'.at_ 0 0 rfl) rfl) ?_
        refine VL.pureG rfl rfl rfl (p_len Try.underlying29 rfl) ?_
        refine VL.pureG rfl rfl rfl (p_ne rfl rfl) ?_
        refine VL.pure rfl rfl rfl (p_pickF rfl rfl) ?_
        refine VL.pure rfl rfl rfl (p_moveB rfl) ?_
        refine VL.knownF 156 rfl (decide_eq_false (not_not_intro (by rw [if_pos ht, hw6]))) ?_
        refine VL.pureG rfl rfl rfl (p_moveP rfl) ?_
        refine VL.callG rfl rfl rfl (r_call1 Try.call11 rfl) (known_c hm hk1) ?_
        rintro _ _ ⟨rfl, rfl⟩
        refine ⟨Kept.one (hm.shrink hu12) 2 rfl, ?_⟩
        refine VL.pureG rfl rfl rfl (p_moveP rfl) ?_
        refine VL.pureG rfl rfl rfl (p_nilCheck rfl) ?_
        refine VL.pureG rfl rfl rfl (p_field (fo := 1) Try.underlying65 rfl Try.sizeOf3 rfl rfl rfl) ?_
        refine VL.readG rfl rfl rfl (fun w' hw' => r_load (v := .int _ _) Try.isAgg3 rfl (hw'.at_ 0 0 rfl) rfl) ?_
        refine VL.pureG rfl rfl rfl (p_gt rfl rfl) ?_
        refine VL.pureG rfl rfl rfl (p_neB Try.underlying4 rfl rfl) ?_
        refine VL.pure rfl rfl rfl (p_pickF rfl rfl) ?_
        refine VL.nil ?_
        repeat (first | refine VC.seq ?_ | refine VC.block ?_ | refine VC.skip ?_)
        refine VC.condF rfl (neB_same ⟨fun h => h.2, fun h => ⟨ht, h⟩⟩) ?_
        repeat (first | refine VC.seq ?_ | refine VC.block ?_ | refine VC.skip ?_)
        repeat (first | refine VC.seq ?_ | refine VC.block ?_ | refine VC.skip ?_)
        refine VC.region ?_
        refine VR.pure rfl rfl (p_moveI rfl) ?_
        refine VR.pure rfl rfl (p_add64 rfl rfl (by omega)) ?_
        refine VR.pure rfl rfl (p_assignI rfl) ?_
        refine VR.nil ?_
        exact ⟨i + 1, ⟨rfl, rfl, rfl, rfl, trivial⟩, ⟨by omega, G2, k, cs1, L1, _, L2, hu.trans hu12, hup, hk1, hk20.mono hu12.heap, hm⟩, by omega⟩
    · repeat (first | refine VC.seq ?_ | refine VC.block ?_ | refine VC.skip ?_)
      refine VC.exit ?_
      repeat (first | refine VC.seq ?_ | refine VC.block ?_ | refine VC.skip ?_)
      refine VC.region ?_
      refine VR.pure rfl rfl (p_assignB rfl) ?_
      refine VR.nil ?_
      repeat (first | refine VC.seq ?_ | refine VC.block ?_ | refine VC.skip ?_)
      refine VC.ret ⟨_, ResOf.r1 (v := .bool _) rfl rfl, ?_⟩
      exact ⟨rfl, hm.none_.shrink hu⟩
  · repeat (first | refine VC.seq ?_ | refine VC.block ?_ | refine VC.skip ?_)
    refine VC.region ?_
    refine VR.pure rfl rfl (p_moveI rfl) ?_
    refine VR.call rfl rfl (r_call1 Try.call15 rfl) (new_no hm hinc) ?_
    rintro _ w ⟨rfl, hm⟩
    refine VR.pure rfl rfl (p_assignP rfl) ?_
    refine VR.nil ?_
    repeat (first | refine VC.seq ?_ | refine VC.block ?_ | refine VC.skip ?_)
    refine VC.region ?_
    refine VR.pure rfl rfl (p_moveI rfl) ?_
    refine VR.call rfl rfl (r_call1 Try.call21 rfl) (rnew_c hm) ?_
    rintro _ w ⟨g2, rfl, hm⟩
    refine VR.pure rfl rfl (p_moveT rfl) ?_
    refine VR.pure rfl rfl (p_extract rfl rfl) ?_
    refine VR.pure rfl rfl (p_extract rfl rfl) ?_
    refine VR.pure rfl rfl (p_assignP rfl) ?_
    refine VR.pure rfl rfl (p_assignB rfl) ?_
    refine VR.nil ?_
    repeat (first | refine VC.seq ?_ | refine VC.block ?_ | refine VC.skip ?_)
    refine VC.region ?_
    refine VR.pure rfl rfl (p_moveB rfl) ?_
    refine VR.pure rfl rfl (p_notD rfl) ?_
    refine VR.nil ?_
    repeat (first | refine VC.seq ?_ | refine VC.block ?_ | refine VC.skip ?_)
    refine VC.condT rfl (decide_eq_true hinc) ?_
    repeat (first | refine VC.seq ?_ | refine VC.block ?_ | refine VC.skip ?_)
    refine VC.region ?_
    refine VR.pure rfl rfl (p_moveP rfl) ?_
    refine VR.pure rfl rfl (p_eqNilP Try.underlying26 rfl) ?_
    refine VR.pure rfl rfl (p_assignB rfl) ?_
    refine VR.nil ?_
    repeat (first | refine VC.seq ?_ | refine VC.block ?_ | refine VC.skip ?_)
    refine VC.ret ⟨_, ResOf.r1 (v := .bool _) rfl rfl, ?_⟩
    exact ⟨rfl, hm.none_⟩

end Go.Bd
namespace Go.Proofs.Ytfaihpikeagpcaa
open Go.Bd Go.ChangeShapes Go.WideShapes

set_option maxRecDepth 100000 in
theorem does_lifted (os : Os) (started : os.Started) (H : Type) (enc : TypeId × Value → H) :
    ReturnsInHanded {} Try.checked os 6 .any (Rows.linkDoesSpec.pre6 enc Try.prog Try.f6 Rows.linkDoesRow.domain false) (Rows.linkDoesSpec.post enc Try.prog Try.f6 false true false false) := by
  refine law_frame (C := Try.checked) (tb := 4) (by kernel_rfl) (by kernel_rfl) started (by kernel_rfl) Try.func6 rfl rfl Try.underlying4 (by kernel_rfl) ?_
    (ChangeSpec.witness6 (enc := enc) (C := Try.checked) false ⟨#[], #[.int .i64 0, .slice none 0 0], []⟩ 8 (by kernel_rfl) (by kernel_rfl) (by kernel_rfl) (by kernel_rfl)) ?_
  · intro ds hl
    match ds, hl with
    | [d1, d2], _ => rfl
  · intro W base args ds p hval hA hwt
    replace hA : DataW.TrodAll enc Try.prog W 0 (fun _ => true) true Try.f6.params.toList args.toList ds p := hA
    rw [Try.params6] at hA hval
    replace hwt : (DataW.weightsEach Try.prog [3, 55] ds).all (· ≤ reachBytes) = true := hwt
    obtain ⟨v0, vs0, d0, ds0, p0, q0, hargs, rfl, rfl, h0, r0⟩ := trodAll_cons hA
    obtain ⟨v1, vs1, d1, ds1, p1, q1, rfl, rfl, rfl, h1, r1⟩ := trodAll_cons r0
    obtain ⟨rfl, rfl, rfl⟩ := trodAll_nil r1
    obtain rfl : args = #[v0, v1] := by cases args; simp_all
    obtain ⟨a0, rfl, _, _, w0⟩ := open_int Try.underlying3 (hval 0 3 v0 rfl rfl) h0
    obtain ⟨_, _, _, rfl⟩ := okWide_slice Try.underlying55 (hval 1 55 v1 rfl rfl)
    obtain ⟨fuel, hf⟩ := h1
    obtain ⟨A, n, c, xs, e1, _, _, _, hr, hx, _⟩ := open_rows (cells := Dd.cells) (Q := fun x => DdOk (Env.of W).heap x) Try.underlying55 cel60 (by decide) Dd.len open_deed hf (LightAll.cons (LightAll.cons hwt).2).1
    simp [Value.cells] at e1
    obtain ⟨rfl, rfl, rfl⟩ := e1
    exact link_does_c (Mem.of W) hr hx

theorem does : Rows.LinkDoesSaid :=
  OpenClaim.holds_of_wide 6 Try.f6 rfl rfl rfl rfl rfl rfl rfl ⟨rfl, rfl, rfl, rfl, rfl⟩ rfl rfl rfl rfl rfl (by kernel_rfl) Try.func6 (by kernel_rfl)
    (of_decide_eq_true (by kernel_rfl)) (by unfold Func.isWrapper; rw [if_neg (of_decide_eq_false (by kernel_rfl))]; exact ⟨rfl, rfl⟩)
    (fun os started H enc _ => does_lifted os started H enc)
end Go.Proofs.Ytfaihpikeagpcaa
