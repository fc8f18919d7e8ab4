/- SittingLives: whatever is done to a book, each answer, and which sessions it has behind each step, is what the document tells. Conditions: none. -/
import Derived.Test.Ytknmjfdemfknaaa17r
import Derived.Test.Ytknmjfdemfknaaa17o
namespace Go.Bd
open Go.Proofs Go.ChangeShapes Go.WideShapes
set_option linter.unusedVariables false
set_option maxRecDepth 20000

theorem allO {F : Env} {w : World} {Ls : List Blks} {g m : Nat} {B : Bk} {l : List Int} (hm : Mem F w (bkB g m B ++ Ls)) (hB : BkOk B) (hl : B.fs.length ≤ 1000000) (h : sortI (B.abs.fs.map (·.1)) = l) :
    Calls Try.prog 16 #[.pointer (some ⟨g, 0, none⟩)] w (Ret fun v w' => ∃ A d L, v = .slice A l.length d ∧ OwnS 2 1 A l.length d (longs l) L ∧ Mem F w' (L :: (bkB g m B ++ Ls))) :=
  Ret.mono (all_c hm.focus hB hl) fun v w' ⟨A, d, L, h1, h2, h5⟩ => by
    rw [h] at h1 h2
    exact ⟨A, d, L, h1, h2, hm.unL h5⟩

theorem all_two {a b : Sl} {La Lb : Blks} {xs ys : List Value} (hn : a.n ≤ 1000000000000) (ha : OwnS 2 1 a.A a.n a.c xs La) (hb : OwnS 2 1 b.A b.n b.c ys Lb) (hn2 : b.n ≤ 1000000000000) :
    All [a, b] [La, Lb] (fun _ (it : Sl) L => it.n ≤ 1000000000000 ∧ ∃ xs, OwnS 2 1 it.A it.n it.c xs L) := ⟨rfl, fun k it L hk hL => by
  match k with
  | 0 =>
    obtain rfl := Option.some.inj (show some a = some it from hk)
    obtain rfl := Option.some.inj (show some La = some L from hL)
    exact ⟨hn, _, ha⟩
  | 1 =>
    obtain rfl := Option.some.inj (show some b = some it from hk)
    obtain rfl := Option.some.inj (show some Lb = some L from hL)
    exact ⟨hn2, _, hb⟩
  | k + 2 => simp at hk⟩
set_option maxHeartbeats 8000000 in
theorem sitting_lives_c {F : Env} {w : World} {A : Option Addr} {n c : Nat} {xs : List Dd} {now : Int} (hm : Mem F w []) (hnc : n ≤ c ∧ c ≤ maxLen) (hr : Row F.heap A (n * 4) (xs.flatMap Dd.cells)) (hl : xs.length = n) :
    Calls Try.prog 6 #[.int .i64 now, .slice A n c] w (Ret fun v w' => v = .bool true ∧ Mem F w' []) := by
  refine Calls.of_vc Try.func6 rfl Try.ntmps6 rfl ?_
  repeat (first | refine VC.seq ?_ | refine VC.block ?_ | refine VC.skip ?_)
  refine VC.region ?_
  refine VR.pure rfl rfl (p_assignB rfl) ?_
  refine VR.nil ?_
  repeat (first | refine VC.seq ?_ | refine VC.block ?_ | refine VC.skip ?_)
  refine VC.region ?_
  refine VR.pure rfl rfl (p_moveL rfl) ?_
  refine VR.pure rfl rfl (p_len Try.underlying22 rfl) ?_
  refine VR.pure rfl rfl (p_gt rfl rfl) ?_
  refine VR.nil ?_
  repeat (first | refine VC.seq ?_ | refine VC.block ?_ | refine VC.skip ?_)
  refine VC.meet (σ := Nat × List Dd) (fun s => [(0, .int .i64 now), (1, .slice A s.1 c)]) (fun s w => Mem F w [] ∧ s.1 ≤ 200 ∧ s.2.length = s.1 ∧ Row F.heap A (s.1 * 4) (s.2.flatMap Dd.cells)) ?_ ?_
  · repeat (first | refine VC.seq ?_ | refine VC.block ?_ | refine VC.skip ?_)
    refine VC.condD rfl (fun h3 => ?_) (fun h3 => ?_)
    · repeat (first | refine VC.seq ?_ | refine VC.block ?_ | refine VC.skip ?_)
      refine VC.region ?_
      refine VR.pure rfl rfl (p_moveL rfl) ?_
      refine VR.pure rfl rfl (p_sliceHN (h := 200) Try.underlying22 Try.sizeOf29 rfl rfl (by omega)) ?_
      refine VR.pure rfl rfl (p_assignL rfl) ?_
      refine VR.nil ?_
      exact ⟨(200, xs.take 200), ⟨rfl, rfl, trivial⟩, hm, Nat.le_refl _, by show (xs.take 200).length = 200; rw [List.length_take]; omega, hr.heads Dd.len hl (by omega)⟩
    · repeat (first | refine VC.seq ?_ | refine VC.block ?_ | refine VC.skip ?_)
      exact ⟨(n, xs), ⟨rfl, rfl, trivial⟩, hm, by show n ≤ 200; omega, hl, hr⟩
  clear hm hr hnc hl
  rintro ⟨n, xs⟩ A0 w ⟨hm, hn, hl, hr⟩
  dsimp only at hn hl hr ⊢
  repeat (first | refine VC.seq ?_ | refine VC.block ?_ | refine VC.skip ?_)
  refine VC.region ?_
  refine VR.pure rfl rfl (p_moveI rfl) ?_
  refine VR.call rfl rfl (r_call1 Try.call9 rfl) (new_c hm) ?_
  rintro _ w ⟨g, m, B0, rfl, e0, hB0, hm⟩
  refine VR.pure rfl rfl (p_moveI rfl) ?_
  refine VR.call rfl rfl (r_call1 Try.call17 rfl) (rnew_c hm) ?_
  rintro _ w ⟨gr, rfl, hm⟩
  refine VR.pure rfl rfl (p_assignP rfl) ?_
  refine VR.pure rfl rfl (p_assignP rfl) ?_
  refine VR.nil ?_
  obtain ⟨A3, c3, L3, ho3, hm⟩ := RMem.to (B := B0) (g := g) (m := m) hm
  have hs0 : Sm B0.abs ⟨min (max now 0) 1152921504606846976, []⟩ := by
    rw [e0]
    exact ⟨rfl, List.Perm.refl _, List.Pairwise.nil⟩
  have hlen0 : B0.fs.length ≤ 0 := by
    rw [fs_len e0]
    exact Nat.le_refl _
  repeat (first | refine VC.seq ?_ | refine VC.block ?_ | refine VC.skip ?_)
  refine VC.region ?_
  refine VR.pure rfl rfl (p_assignI rfl) ?_
  refine VR.nil ?_
  repeat (first | refine VC.seq ?_ | refine VC.block ?_ | refine VC.skip ?_)
  refine VC.loop (σ := Nat × Env × Bk × Ba × (Option Addr × Nat × Blks)) (fun s => [(1, .slice A n c), (5, .pointer (some ⟨g, 0, none⟩)), (6, .pointer (some ⟨gr, 0, none⟩)), (7, .int .i64 s.1)])
    (fun s w => s.1 ≤ n ∧ F.under s.2.1 ∧ BkOk s.2.2.1 ∧ Sm s.2.2.1.abs s.2.2.2.1 ∧ s.2.2.1.fs.length ≤ s.1 ∧ OwnR s.2.2.2.1 s.2.2.2.2.1 s.2.2.2.2.2.1 s.2.2.2.2.2.2 ∧ Mem s.2.1 w (two g m s.2.2.1 gr s.2.2.2.1 s.2.2.2.2.1 s.2.2.2.2.2.1 s.2.2.2.2.2.2)) (fun s => n - s.1)
    (0, F, B0, _, A3, c3, L3) ⟨rfl, rfl, rfl, rfl, trivial⟩ ⟨by omega, Env.under_refl _, hB0, hs0, hlen0, ho3, hm⟩ ?_
  clear hm hB0 hs0 hlen0 ho3 e0
  rintro ⟨i, G, B, r, A4, c4, L4⟩ A1 w ⟨hi, hu, hB, hs, hlen, ho, hm⟩
  dsimp only at hi hu hB hs hlen ho hm ⊢
  repeat (first | refine VC.seq ?_ | refine VC.block ?_ | refine VC.skip ?_)
  refine VC.region ?_
  refine VR.pure rfl rfl (p_moveI rfl) ?_
  refine VR.pure rfl rfl (p_moveL rfl) ?_
  refine VR.pure rfl rfl (p_len Try.underlying22 rfl) ?_
  refine VR.pure rfl rfl (p_lt rfl rfl) ?_
  refine VR.nil ?_
  repeat (first | refine VC.seq ?_ | refine VC.block ?_ | refine VC.skip ?_)
  refine VC.condD rfl (fun h5 => ?_) (fun h5 => ?_)
  · have hi' : i < n := by omega
    obtain ⟨x, hx, _⟩ := get_of (xs := xs) (k := i) (by omega)
    obtain ⟨b, off, blk, T, fr, rfl, hb, hc⟩ := hr.elem Dd.len (by decide) (by omega)
    repeat (first | refine VC.seq ?_ | refine VC.block ?_ | refine VC.skip ?_)
    refine VC.region ?_
    refine VR.pure rfl rfl (p_moveP rfl) ?_
    refine VR.pure rfl rfl (p_moveP rfl) ?_
    refine VR.pure rfl rfl (p_moveL rfl) ?_
    refine VR.pure rfl rfl (p_moveI rfl) ?_
    refine VR.pure rfl rfl (p_idxN Try.underlying22 Try.sizeOf29 rfl rfl hi') ?_
    refine VR.val rfl rfl (r_loadAgg (vs := [.int .i64 x.op, .int .i64 x.s, .int .i64 x.t, .int .i64 x.now]) Try.isAgg29 Try.sizeOf29 rfl (hm.fix _ _ (hu.heap _ _ hb)) rfl (hc i x hx)) ?_
    refine VR.call rfl rfl (r_call3 Try.call18 rfl rfl rfl) (step_c (x := x) ho hm hB hs (by omega)) ?_
    rintro _ w ⟨rfl, B', r', A', c', L', hB', hs', hlen', ho', hm⟩
    refine VR.pure rfl rfl (p_not rfl) ?_
    refine VR.pure rfl rfl (p_moveB rfl) ?_
    refine VR.knownF 33 rfl rfl ?_
    refine VR.pureG rfl rfl (p_moveP rfl) ?_
    have hbl : B'.abs.fs.length ≤ 1000000 := by have h3 : B'.abs.fs.length = B'.fs.length := List.length_map _; omega
    have hrl := hs'.len
    refine VR.callG rfl rfl (r_call1 Try.call16 rfl) (allK hm hB' rfl hbl hs'.all) ?_
    rintro _ w ⟨A9, c9, G1, rfl, hc9, hd9, hu1, hr9, hm⟩
    refine VR.pureG rfl rfl (p_moveP rfl) ?_
    refine VR.callG rfl rfl (r_call1 Try.call19 rfl) (rall2 ho' hm (by omega)) ?_
    rintro _ w ⟨O, o, G2, rfl, hu2, hr2, hm⟩
    have hnl : (names r').length = r'.fs.length := List.length_map _
    refine VR.callG rfl rfl (r_call2 Try.call15 rfl rfl) (same_longs_c hm (by unfold maxLen; omega) (hr9.mono hu2.heap) hr2) ?_
    rintro _ w ⟨rfl, hm⟩
    refine VR.pureG rfl rfl (p_notD rfl) ?_
    refine VR.pure rfl rfl (p_pickF rfl rfl) ?_
    refine VR.nil ?_
    repeat (first | refine VC.seq ?_ | refine VC.block ?_ | refine VC.skip ?_)
    refine VC.condF rfl (decide_eq_false (not_not_intro rfl)) ?_
    repeat (first | refine VC.seq ?_ | refine VC.block ?_ | refine VC.skip ?_)
    repeat (first | refine VC.seq ?_ | refine VC.block ?_ | refine VC.skip ?_)
    refine VC.region ?_
    refine VR.pure rfl rfl (p_moveI rfl) ?_
    refine VR.pure rfl rfl (p_add64 rfl rfl (by omega)) ?_
    refine VR.pure rfl rfl (p_assignI rfl) ?_
    refine VR.nil ?_
    exact ⟨(i + 1, G2, B', r', A', c', L'), ⟨rfl, rfl, rfl, rfl, trivial⟩, ⟨by omega, (hu.trans hu1).trans hu2, hB', hs', by show B'.fs.length ≤ i + 1; omega, ho', hm⟩, by omega⟩
  · repeat (first | refine VC.seq ?_ | refine VC.block ?_ | refine VC.skip ?_)
    refine VC.exit ?_
    have hnl : (names r).length = r.fs.length := List.length_map _
    have hrl := hs.len
    replace hm : Mem G w (bkB g m B ++ []) := hm.subF (by
      show (bkB g m B ++ []).flatten.Sublist (bkB g m B ++ _).flatten
      rw [List.flatten_append, List.flatten_append]
      exact List.Sublist.append_left (List.nil_sublist _) _)
    repeat (first | refine VC.seq ?_ | refine VC.block ?_ | refine VC.skip ?_)
    refine VC.region ?_
    refine VR.pure rfl rfl (p_moveP rfl) ?_
    refine VR.call rfl rfl (r_call1 Try.call16 rfl) (allO hm hB (by omega) hs.all) ?_
    rintro _ w ⟨A8, c8, L8, rfl, ho8, hm⟩
    replace hm : Mem G w (bkB g m B ++ (L8 :: [])) := (hm.pull 2 rfl).pull 2 rfl
    refine VR.pure rfl rfl (p_moveP rfl) ?_
    refine VR.call rfl rfl (r_call1 Try.call16 rfl) (allO hm hB (by omega) hs.all) ?_
    rintro _ w ⟨A9, c9, L9, rfl, ho9, hm⟩
    replace hm := hm.pull 3 rfl
    refine VR.pure rfl rfl (p_assignL rfl) ?_
    refine VR.pure rfl rfl (p_assignL rfl) ?_
    refine VR.nil ?_
    repeat (first | refine VC.seq ?_ | refine VC.block ?_ | refine VC.skip ?_)
    refine VC.region ?_
    refine VR.pure rfl rfl (p_moveL rfl) ?_
    refine VR.pure rfl rfl (p_moveL rfl) ?_
    refine VR.new hm rfl rfl (n_buildSlice1 (vs := [.slice _ _ _, .slice _ _ _]) Try.underlying43 inf33 rfl rfl rfl rfl rfl rfl rfl) ?_
    intro b47 w hm
    obtain ⟨G1, hu1, hm, hb47⟩ := hm.freeze
    refine VR.call rfl rfl (r_call1 Try.call20 rfl) (apart_longs_c (Ms := [L8, L9]) (its := [⟨A8, (names r).length, c8⟩, ⟨A9, (names r).length, c9⟩]) hm (Row.lit (cs := [.slice A8 (names r).length c8, .slice A9 (names r).length c9]) (hb47 _ (.head _))) (by decide) (all_two (by show (names r).length ≤ _; omega) ho8 ho9 (by show (names r).length ≤ _; omega))) ?_
    rintro _ w ⟨rfl, hm⟩
    refine VR.pure rfl rfl (p_moveB rfl) ?_
    refine VR.knownT 49 rfl rfl ?_
    refine VR.callG rfl rfl (r_call0 Try.call8) (awake_c hm) ?_
    rintro _ w ⟨rfl, hm⟩
    refine VR.pure rfl rfl (p_pickT rfl rfl) ?_
    refine VR.pure rfl rfl (p_assignB rfl) ?_
    refine VR.nil ?_
    repeat (first | refine VC.seq ?_ | refine VC.block ?_ | refine VC.skip ?_)
    refine VC.ret ⟨_, ResOf.r1 (v := .bool _) rfl rfl, ?_⟩
    exact ⟨rfl, (hm.subF (by simp)).shrink (hu.trans hu1)⟩
end Go.Bd
namespace Go.Proofs.Ytknmjfdemfknaaa
open Go.Bd Go.ChangeShapes Go.WideShapes

set_option maxRecDepth 100000 in
theorem lives_lifted (os : Os) (started : os.Started) (H : Type) (enc : TypeId × Value → H) :
    ReturnsInHanded {} Try.checked os 6 .any (Rows.sittingLivesSpec.pre6 enc Try.prog Try.f6 Rows.sittingLivesRow.domain false) (Rows.sittingLivesSpec.post enc Try.prog Try.f6 false true false false) := by
  refine law_frame (C := Try.checked) (tb := 4) (by kernel_rfl) (by kernel_rfl) started (by kernel_rfl) Try.func6 rfl rfl Try.underlying4 (by kernel_rfl) ?_
    (ChangeSpec.witness6 (enc := enc) (C := Try.checked) false ⟨#[], #[.int .i64 0, .slice none 0 0], []⟩ 8 (by kernel_rfl) (by kernel_rfl) (by kernel_rfl) (by kernel_rfl)) ?_
  · intro ds hl
    match ds, hl with
    | [d1, d2], _ => rfl
  · intro W base args ds p hval hA hwt
    replace hA : DataW.TrodAll enc Try.prog W 0 (fun _ => true) true Try.f6.params.toList args.toList ds p := hA
    rw [Try.params6] at hA hval
    replace hwt : (DataW.weightsEach Try.prog [2, 22] ds).all (· ≤ reachBytes) = true := hwt
    obtain ⟨v0, vs0, d0, ds0, p0, q0, hargs, rfl, rfl, h0, r0⟩ := trodAll_cons hA
    obtain ⟨v1, vs1, d1, ds1, p1, q1, rfl, rfl, rfl, h1, r1⟩ := trodAll_cons r0
    obtain ⟨rfl, rfl, rfl⟩ := trodAll_nil r1
    obtain rfl : args = #[v0, v1] := by cases args; simp_all
    obtain ⟨a0, rfl, _, _, w0⟩ := open_int Try.underlying2 (hval 0 2 v0 rfl rfl) h0
    obtain ⟨_, _, _, rfl⟩ := okWide_slice Try.underlying22 (hval 1 22 v1 rfl rfl)
    obtain ⟨fuel, hf⟩ := h1
    obtain ⟨A, n, c, xs, e1, hnc, hcm, _, hr, hx, hxl⟩ := open_rows (cells := Dd.cells) (Q := fun _ => True) Try.underlying22 cel29 (by decide) Dd.len open_do hf (LightAll.cons (LightAll.cons hwt).2).1
    simp [Value.cells] at e1
    obtain ⟨rfl, rfl, rfl⟩ := e1
    exact sitting_lives_c (Mem.of W) ⟨hnc, hcm⟩ hr hxl

theorem lives : Rows.SittingLivesSaid :=
  OpenClaim.holds_of_wide 6 Try.f6 rfl rfl rfl rfl rfl rfl rfl ⟨rfl, rfl, rfl, rfl, rfl⟩ rfl rfl rfl rfl rfl (by kernel_rfl) Try.func6 (by kernel_rfl)
    (of_decide_eq_true (by kernel_rfl)) (by unfold Func.isWrapper; rw [if_neg (of_decide_eq_false (by kernel_rfl))]; exact ⟨rfl, rfl⟩)
    (fun os started H enc _ => lives_lifted os started H enc)
end Go.Proofs.Ytknmjfdemfknaaa
