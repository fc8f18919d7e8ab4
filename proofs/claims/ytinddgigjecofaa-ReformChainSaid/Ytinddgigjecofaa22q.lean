/- Contracts of layer 22: calls lent, kept, written over. Conditions: as each states. -/
import Derived.Test.Ytinddgigjecofaa22p
namespace Go.Bd
open Go.Proofs
set_option linter.unusedVariables false
set_option maxRecDepth 20000

theorem Mem.bring {F : Env} {w : World} {A B : List Blks} {x : Blks} (h : Mem F w (A ++ (x :: B))) : Mem F w (x :: (A ++ B)) := h.permF (by
  simp only [List.flatten_append, List.flatten_cons]
  rw [← List.append_assoc, ← List.append_assoc]
  exact (List.perm_append_comm).append_right _)

def LentOk (k : Nat) : Prop := ∀ (F : Env) (w : World) (Ls : List Blks) (a : Ak), Mem F w Ls → Tree F.heap k a →
  Calls Try.prog 11 #[.agg a.h.arr] w (Ret fun v w' => ∃ o bs, v = .agg o.h.arr ∧ LentA k a o bs ∧ Mem F w' (bs ++ Ls))

set_option maxHeartbeats 2000000 in
theorem lentAs_c {q : Nat} (ih : LentOk q) {F : Env} {w : World} {Ls : List Blks} {A : Option Addr} {n c : Nat} {ps : List Ak} (hm : Mem F w Ls) (hn : n * 168 ≤ 140737488355328) (hr : Row F.heap A (n * 15) (acells ps)) (ht : ∀ p ∈ ps, Tree F.heap q p) :
    Calls Try.prog 33 #[.slice A n c] w (Ret fun v w' => ∃ A' c' os css L, v = .slice A' n c' ∧ OwnS 31 15 A' (n + 12) c' (acells (os ++ marksA 12)) L ∧ Trio (LentA q) ps os css ∧ Mem F w' (L :: (css.flatten ++ Ls))) := by
  have hl := acells_len hr
  refine Calls.of_vc Try.func33 rfl Try.ntmps33 rfl ?_
  repeat (first | refine VC.seq ?_ | refine VC.block ?_ | refine VC.skip ?_)
  refine VC.region ?_
  refine VR.pure rfl rfl (p_assignL rfl) ?_
  refine VR.nil ?_
  repeat (first | refine VC.seq ?_ | refine VC.block ?_ | refine VC.skip ?_)
  refine VC.region ?_
  refine VR.pure rfl rfl (p_moveL rfl) ?_
  refine VR.pure rfl rfl (p_len Try.underlying29 rfl) ?_
  refine VR.pure rfl rfl (p_add64E (r := ((n + 12 : Nat) : Int)) rfl rfl (by omega) (by omega)) ?_
  refine VR.new hm rfl rfl (n_makeSlice (s := 15) (bytes := 168) Try.underlying29 inf31 rfl rfl rfl rfl rfl (by omega) (by omega)) ?_
  intro g3 w hm
  refine VR.pure rfl rfl (p_assignL rfl) ?_
  refine VR.nil ?_
  repeat (first | refine VC.seq ?_ | refine VC.block ?_ | refine VC.skip ?_)
  refine VC.region ?_
  refine VR.pure rfl rfl (p_assignI rfl) ?_
  refine VR.nil ?_
  repeat (first | refine VC.seq ?_ | refine VC.block ?_ | refine VC.skip ?_)
  refine VC.loop (σ := Nat × Array Value × List Ak × List (List Blks)) (fun s => [(0, .slice A n c), (3, .slice (some ⟨g3, 0, none⟩) s.1 (n + 12)), (4, .int .i64 s.1)])
    (fun s w => s.1 ≤ n ∧ OwnS 31 15 (some ⟨g3, 0, none⟩) s.1 (n + 12) (acells s.2.2.1) [(g3, .cells s.2.1 31 (0, 0))] ∧ Trio (LentA q) (ps.take s.1) s.2.2.1 s.2.2.2 ∧ Mem F w ([(g3, .cells s.2.1 31 (0, 0))] :: (s.2.2.2.flatten ++ Ls))) (fun s => n - s.1)
    (0, _, [], []) ⟨rfl, rfl, rfl, trivial⟩ ⟨by omega, OwnS.made (c := (n + 12 : Nat)) (by unfold maxLen; omega) (size_madeCells _ _), .nil, hm⟩ ?_
  clear hm
  rintro ⟨k, cur, os, css⟩ A1 w ⟨hk, ho, hls, hm⟩
  dsimp only at hk ho hls hm ⊢
  repeat (first | refine VC.seq ?_ | refine VC.block ?_ | refine VC.skip ?_)
  refine VC.region ?_
  refine VR.pure rfl rfl (p_moveI rfl) ?_
  refine VR.pure rfl rfl (p_moveL rfl) ?_
  refine VR.pure rfl rfl (p_len Try.underlying29 rfl) ?_
  refine VR.pure rfl rfl (p_lt rfl rfl) ?_
  refine VR.nil ?_
  repeat (first | refine VC.seq ?_ | refine VC.block ?_ | refine VC.skip ?_)
  refine VC.condD rfl (fun h => ?_) (fun h => ?_)
  · have hk' : k < n := by omega
    obtain ⟨p, hp, hpm⟩ := get_of (xs := ps) (k := k) (by omega)
    obtain ⟨b, off, blk, T, fr, hA, hb, hc⟩ := Row.elem Ak.len hr (by decide) (by omega)
    rw [hA]
    repeat (first | refine VC.seq ?_ | refine VC.block ?_ | refine VC.skip ?_)
    repeat (first | refine VC.seq ?_ | refine VC.block ?_ | refine VC.skip ?_)
    refine VC.region ?_
    refine VR.pure rfl rfl (p_moveL rfl) ?_
    refine VR.pure rfl rfl (p_moveI rfl) ?_
    refine VR.pure rfl rfl (p_idxN Try.underlying29 Try.sizeOf31 rfl rfl hk') ?_
    refine VR.val rfl rfl (r_loadAgg (vs := p.h.cs) Try.isAgg31 Try.sizeOf31 rfl (hm.fix _ _ hb) rfl (hc k p hp)) ?_
    refine VR.call rfl rfl (r_call1 Try.call11 rfl) (ih _ _ _ _ hm (ht p hpm)) ?_
    rintro _ w ⟨o, cs, rfl, hlo, hm⟩
    refine VR.new hm rfl rfl (n_allocG Try.zeroValue31) ?_
    intro b5 w hm
    refine VR.store (cs' := o.h.arr) (v := .agg _) Try.sizeOf31 rfl rfl rfl rfl rfl hm 0 0 rfl (Nat.ble_eq.mp rfl) (lay_all rfl) ?_
    intro w hm
    refine VR.nil ?_
    repeat (first | refine VC.seq ?_ | refine VC.block ?_ | refine VC.skip ?_)
    refine VC.region ?_
    refine VR.pure rfl rfl (p_moveL rfl) ?_
    refine VR.val rfl rfl (r_loadAgg (vs := o.h.cs) Try.isAgg31 Try.sizeOf31 rfl (hm.at_ 0 0 rfl) rfl (agg_at rfl)) ?_
    refine VR.new hm rfl rfl (n_buildSlice (vs := [.agg _]) Try.underlying29 inf31 rfl rfl rfl rfl rfl rfl) ?_
    intro b6 w hm
    replace hm := hm.pop2
    replace hm := Mem.bring (A := [(b6, .cells o.h.arr 31 (0, 0))] :: cs) hm
    refine VR.appendI (s := 15) Try.underlying29 inf31 rfl rfl rfl rfl rfl rfl hm ho (Row.lit (cs := o.cells) (hm.at_ 1 0 rfl)) (acells_one [o]) rfl (by omega) ?_
    intro cur' w ho' hm
    refine VR.pure rfl rfl (p_assignL rfl) ?_
    refine VR.nil ?_
    repeat (first | refine VC.seq ?_ | refine VC.block ?_ | refine VC.skip ?_)
    refine VC.region ?_
    refine VR.pure rfl rfl (p_moveI rfl) ?_
    refine VR.pure rfl rfl (p_add64 rfl rfl (by omega)) ?_
    refine VR.pure rfl rfl (p_assignI rfl) ?_
    refine VR.nil ?_
    refine ⟨(k + 1, cur', os ++ [o], css ++ [cs]), ⟨rfl, rfl, rfl, trivial⟩, ⟨by omega, by rw [acells_app]; exact ho', ?_, ?_⟩, by omega⟩
    · have e2 : ps.take (k + 1) = ps.take k ++ [p] := by rw [List.take_add_one, hp]; rfl
      rw [e2]
      exact .snoc hls hlo
    · have h1 : Mem F w ([(g3, .cells cur' 31 (0, 0))] :: (cs ++ (css.flatten ++ Ls))) := hm.pop2
      exact h1.permF (by
        simp only [List.flatten_cons, List.flatten_append, List.flatten_nil, List.append_nil]
        refine (List.Perm.refl _).append ?_
        rw [← List.append_assoc]
        exact (List.perm_append_comm).append_right _)
  · repeat (first | refine VC.seq ?_ | refine VC.block ?_ | refine VC.skip ?_)
    refine VC.exit ?_
    have hkn : k = n := by omega
    rw [hkn] at ho hls
    rw [List.take_of_length_le (by omega)] at hls
    rw [hkn]
    repeat (first | refine VC.seq ?_ | refine VC.block ?_ | refine VC.skip ?_)
    refine VC.region ?_
    refine VR.pure rfl rfl (p_assignI rfl) ?_
    refine VR.nil ?_
    repeat (first | refine VC.seq ?_ | refine VC.block ?_ | refine VC.skip ?_)
    refine VC.loop (σ := Nat × Array Value) (fun s => [(0, .slice A n c), (3, .slice (some ⟨g3, 0, none⟩) (n + s.1) (n + 12)), (6, .int .i64 s.1)])
      (fun s w => s.1 ≤ 12 ∧ OwnS 31 15 (some ⟨g3, 0, none⟩) (n + s.1) (n + 12) (acells (os ++ marksA s.1)) [(g3, .cells s.2 31 (0, 0))] ∧ Mem F w ([(g3, .cells s.2 31 (0, 0))] :: (css.flatten ++ Ls))) (fun s => 12 - s.1) (0, cur) ⟨rfl, rfl, rfl, trivial⟩ ⟨by omega, by simpa [marksA] using ho, hm⟩ ?_
    clear hm ho
    rintro ⟨j, cur3⟩ A2 w ⟨hj, ho, hm⟩
    dsimp only at hj ho hm ⊢
    repeat (first | refine VC.seq ?_ | refine VC.block ?_ | refine VC.skip ?_)
    refine VC.region ?_
    refine VR.pure rfl rfl (p_moveI rfl) ?_
    refine VR.pure rfl rfl (p_lt rfl rfl) ?_
    refine VR.nil ?_
    repeat (first | refine VC.seq ?_ | refine VC.block ?_ | refine VC.skip ?_)
    refine VC.condD rfl (fun h2 => ?_) (fun h2 => ?_)
    · repeat (first | refine VC.seq ?_ | refine VC.block ?_ | refine VC.skip ?_)
      repeat (first | refine VC.seq ?_ | refine VC.block ?_ | refine VC.skip ?_)
      refine VC.region ?_
      refine VR.pure rfl rfl (p_moveL rfl) ?_
      refine VR.pure rfl rfl (p_moveI rfl) ?_
      refine VR.call rfl rfl (r_call2 Try.call52 rfl rfl) (markAsk_c hm (by omega)) ?_
      rintro _ w ⟨rfl, hm⟩
      refine VR.new hm rfl rfl (n_buildSlice (vs := [.agg _]) Try.underlying29 inf31 rfl rfl rfl rfl rfl rfl) ?_
      intro g6 w hm
      replace hm := hm.swap
      refine VR.appendI (s := 15) Try.underlying29 inf31 rfl rfl rfl rfl rfl rfl hm ho (Row.lit (cs := (mka 1 j).cells) (hm.at_ 1 0 rfl)) (acells_one [mka 1 j]) rfl (by omega) ?_
      intro cur4 w ho4 hm
      refine VR.pure rfl rfl (p_assignL rfl) ?_
      refine VR.nil ?_
      repeat (first | refine VC.seq ?_ | refine VC.block ?_ | refine VC.skip ?_)
      refine VC.region ?_
      refine VR.pure rfl rfl (p_moveI rfl) ?_
      refine VR.pure rfl rfl (p_add64 rfl rfl (by omega)) ?_
      refine VR.pure rfl rfl (p_assignI rfl) ?_
      refine VR.nil ?_
      refine ⟨(j + 1, cur4), ⟨rfl, rfl, rfl, trivial⟩, ⟨by omega, ?_, hm.pop2⟩, by omega⟩
      rw [marksA_succ, ← List.append_assoc, acells_app]
      exact ho4
    · repeat (first | refine VC.seq ?_ | refine VC.block ?_ | refine VC.skip ?_)
      refine VC.exit ?_
      have hj12 : j = 12 := by omega
      rw [hj12] at ho ⊢
      repeat (first | refine VC.seq ?_ | refine VC.block ?_ | refine VC.skip ?_)
      refine VC.region ?_
      refine VR.pure rfl rfl (p_moveL rfl) ?_
      refine VR.pure rfl rfl (p_moveL rfl) ?_
      refine VR.pure rfl rfl (p_len Try.underlying29 rfl) ?_
      refine VR.pure rfl rfl (p_sliceHN Try.underlying29 Try.sizeOf31 rfl rfl (by omega)) ?_
      refine VR.pure rfl rfl (p_assignL rfl) ?_
      refine VR.nil ?_
      repeat (first | refine VC.seq ?_ | refine VC.block ?_ | refine VC.skip ?_)
      refine VC.ret ⟨_, ResOf.r1 (v := .slice _ _ _) rfl rfl, ?_⟩
      exact ⟨_, _, os, css, _, rfl, ho, hls, hm⟩

set_option maxHeartbeats 4000000 in
theorem lentA_c : ∀ k, LentOk k
  | 0 => fun _ _ _ _ _ h => False.elim h
  | k + 1 => by
    intro F w Ls a hm ha
    obtain ⟨h, ps⟩ := a
    obtain ⟨hsm, hd, hmm, hp, ht⟩ := ha
    obtain ⟨c, dA, dc, mA, mc, pA, pc⟩ := h
    have hsm' := hsm
    obtain ⟨hs1, hs2, hs3⟩ := hsm'
    dsimp only at hs1 hs2 hs3 hsm hd hmm hp ⊢
    refine Calls.of_vc Try.func11 rfl Try.ntmps11 rfl ?_
    repeat (first | refine VC.seq ?_ | refine VC.block ?_ | refine VC.skip ?_)
    refine VC.region ?_
    refine VR.new hm rfl rfl (n_boxG rfl) ?_
    intro b1 w hm
    refine VR.new hm rfl rfl (n_allocG Try.zeroValue31) ?_
    intro b2 w hm
    refine VR.nil ?_
    repeat (first | refine VC.seq ?_ | refine VC.block ?_ | refine VC.skip ?_)
    refine VC.region ?_
    refine VR.pure rfl rfl (p_field (fo := 5) Try.underlying31 rfl Try.sizeOf27 rfl rfl rfl) ?_
    refine VR.val rfl rfl (r_load (v := .slice _ _ _) Try.isAgg27 rfl (hm.at_ 1 0 rfl) rfl) ?_
    refine VR.call rfl rfl (r_call1 Try.call32 rfl) (lentB_c (n := c.dn) hm hs1 hd) ?_
    rintro _ w ⟨A2, c2, L2, rfl, ho2, hm⟩
    refine VR.pure rfl rfl (p_field (fo := 5) Try.underlying31 rfl Try.sizeOf27 rfl rfl rfl) ?_
    refine VR.store (cs' := (Ah.arr ⟨c, A2, c2, mA, mc, pA, pc⟩)) (v := .slice _ _ _) Try.sizeOf27 rfl rfl rfl rfl rfl hm 2 0 rfl (Nat.ble_eq.mp rfl) rfl ?_
    intro w hm
    refine VR.nil ?_
    repeat (first | refine VC.seq ?_ | refine VC.block ?_ | refine VC.skip ?_)
    refine VC.region ?_
    refine VR.pure rfl rfl (p_field (fo := 13) Try.underlying31 rfl Try.sizeOf23 rfl rfl rfl) ?_
    refine VR.val rfl rfl (r_load (v := .slice _ _ _) Try.isAgg23 rfl (hm.at_ 2 0 rfl) rfl) ?_
    refine VR.call rfl rfl (r_call1 Try.call31 rfl) (lentM_c (n := c.mn) hm hs2 hmm) ?_
    rintro _ w ⟨A3, c3, L3, rfl, ho3, hm⟩
    refine VR.pure rfl rfl (p_field (fo := 13) Try.underlying31 rfl Try.sizeOf23 rfl rfl rfl) ?_
    refine VR.store (cs' := (Ah.arr ⟨c, A2, c2, A3, c3, pA, pc⟩)) (v := .slice _ _ _) Try.sizeOf23 rfl rfl rfl rfl rfl hm 3 0 rfl (Nat.ble_eq.mp rfl) rfl ?_
    intro w hm
    refine VR.nil ?_
    repeat (first | refine VC.seq ?_ | refine VC.block ?_ | refine VC.skip ?_)
    refine VC.region ?_
    refine VR.pure rfl rfl (p_field (fo := 14) Try.underlying31 rfl Try.sizeOf29 rfl rfl rfl) ?_
    refine VR.val rfl rfl (r_load (v := .slice _ _ _) Try.isAgg29 rfl (hm.at_ 3 0 rfl) rfl) ?_
    refine VR.call rfl rfl (r_call1 Try.call33 rfl) (lentAs_c (n := c.pn) (lentA_c k) hm hs3 hp ht) ?_
    rintro _ w ⟨A4, c4, os, css, L4, rfl, ho4, htr, hm⟩
    refine VR.pure rfl rfl (p_field (fo := 14) Try.underlying31 rfl Try.sizeOf29 rfl rfl rfl) ?_
    replace hm := Mem.bring (A := L4 :: (css.flatten ++ [L3, L2, [(b2, _)]])) (x := [(b1, .cells (Ah.arr ⟨c, A2, c2, A3, c3, pA, pc⟩) 31 (0, 0))]) (B := Ls) (by simpa [mset, bset] using hm)
    refine VR.store (cs' := (Ah.arr ⟨c, A2, c2, A3, c3, A4, c4⟩)) (v := .slice _ _ _) Try.sizeOf29 rfl rfl rfl rfl rfl hm 0 0 rfl (Nat.ble_eq.mp rfl) rfl ?_
    intro w hm
    refine VR.nil ?_
    replace hm := Mem.bring (A := [(b1, .cells (Ah.arr ⟨c, A2, c2, A3, c3, A4, c4⟩) 31 (0, 0))] :: L4 :: (css.flatten ++ [L3, L2])) (x := [(b2, _)]) (B := Ls) (by simpa [mset, bset] using hm)
    repeat (first | refine VC.seq ?_ | refine VC.block ?_ | refine VC.skip ?_)
    refine VC.region ?_
    refine VR.val rfl rfl (r_loadAgg (vs := (Ah.cs ⟨c, A2, c2, A3, c3, A4, c4⟩)) Try.isAgg31 Try.sizeOf31 rfl (hm.at_ 1 0 rfl) rfl (agg_at rfl)) ?_
    refine VR.store (cs' := (Ah.arr ⟨c, A2, c2, A3, c3, A4, c4⟩)) (v := .agg _) Try.sizeOf31 rfl rfl rfl rfl rfl hm 0 0 rfl (Nat.ble_eq.mp rfl) (lay_all rfl) ?_
    intro w hm
    refine VR.nil ?_
    repeat (first | refine VC.seq ?_ | refine VC.block ?_ | refine VC.skip ?_)
    refine VC.ret ⟨_, ResOf.r1 (v := .agg _) rfl ⟨_, rfl, run_loadVarAgg Try.isAgg31 Try.sizeOf31 (hm.at_ 0 0 rfl) (vs := Ah.cs ⟨c, A2, c2, A3, c3, A4, c4⟩) rfl (agg_at rfl)⟩, ?_⟩
    refine ⟨.mk ⟨c, A2, c2, A3, c3, A4, c4⟩ os, L4 :: (css.flatten ++ [L3, L2]), rfl, ⟨rfl, hsm, acells_len hp, hmm.len, hd.len, L2, L3, L4, css, rfl, ho2, ho3, ho4, htr⟩, ?_⟩
    simpa using hm.pop.pop

def KeptOk (k : Nat) : Prop := ∀ (F : Env) (w : World) (Ls : List Blks) (a o : Ak) (bs : List Blks), Mem F w Ls → Tree F.heap k a → LentA k a o bs → (∀ L ∈ bs, ∀ p ∈ L, F.heap p.1 = some p.2) →
  Calls Try.prog 14 #[.agg o.h.arr, .agg a.h.arr] w (Ret fun v w' => v = .bool true ∧ Mem F w' Ls)

set_option maxHeartbeats 2000000 in
theorem keptAs_c {q : Nat} (ih : KeptOk q) {F : Env} {w : World} {Ls : List Blks} {A B : Option Addr} {n c d : Nat} {ps os : List Ak} {css : List (List Blks)} (hm : Mem F w Ls) (hn : n * 168 ≤ 140737488355328) (hc : n + 12 ≤ c) (hr : Row F.heap A ((n + 12) * 15) (acells (os ++ marksA 12)))
    (htr : Trio (LentA q) ps os css) (hbs : ∀ L ∈ css.flatten, ∀ p ∈ L, F.heap p.1 = some p.2) (hs : Row F.heap B (n * 15) (acells ps)) (ht : ∀ p ∈ ps, Tree F.heap q p) :
    Calls Try.prog 38 #[.slice A n c, .slice B n d] w (Ret fun v w' => v = .bool true ∧ Mem F w' Ls) := by
  have hl := acells_len hs
  have hlo := htr.len
  refine Calls.of_vc Try.func38 rfl Try.ntmps38 rfl ?_
  repeat (first | refine VC.seq ?_ | refine VC.block ?_ | refine VC.skip ?_)
  refine VC.region ?_
  refine VR.pure rfl rfl (p_assignB rfl) ?_
  refine VR.nil ?_
  repeat (first | refine VC.seq ?_ | refine VC.block ?_ | refine VC.skip ?_)
  refine VC.region ?_
  refine VR.pure rfl rfl (p_moveL rfl) ?_
  refine VR.pure rfl rfl (p_len Try.underlying29 rfl) ?_
  refine VR.pure rfl rfl (p_moveL rfl) ?_
  refine VR.pure rfl rfl (p_len Try.underlying29 rfl) ?_
  refine VR.pure rfl rfl (p_ne rfl rfl) ?_
  refine VR.nil ?_
  repeat (first | refine VC.seq ?_ | refine VC.block ?_ | refine VC.skip ?_)
  refine VC.condF rfl (decide_eq_false (not_not_intro rfl)) ?_
  repeat (first | refine VC.seq ?_ | refine VC.block ?_ | refine VC.skip ?_)
  refine VC.region ?_
  refine VR.pure rfl rfl (p_moveL rfl) ?_
  refine VR.pure rfl rfl (p_moveL rfl) ?_
  refine VR.pure rfl rfl (p_len Try.underlying29 rfl) ?_
  refine VR.pure rfl rfl (p_add64E (r := ((n + 12 : Nat) : Int)) rfl rfl (by omega) (by omega)) ?_
  refine VR.pure rfl rfl (p_sliceHN (h := n + 12) Try.underlying29 Try.sizeOf31 rfl rfl (by omega)) ?_
  refine VR.pure rfl rfl (p_assignL rfl) ?_
  refine VR.nil ?_
  repeat (first | refine VC.seq ?_ | refine VC.block ?_ | refine VC.skip ?_)
  refine VC.region ?_
  refine VR.pure rfl rfl (p_assignI rfl) ?_
  refine VR.nil ?_
  repeat (first | refine VC.seq ?_ | refine VC.block ?_ | refine VC.skip ?_)
  refine VC.loop (σ := Nat) (fun k => [(0, .slice A n c), (1, .slice B n d), (5, .slice A (n + 12) c), (6, .int .i64 k)]) (fun k w => Mem F w Ls ∧ k ≤ n + 12) (fun k => n + 12 - k) 0 ⟨rfl, rfl, rfl, rfl, trivial⟩ ⟨hm, by omega⟩ ?_
  clear hm
  rintro k A' w ⟨hm, hk⟩
  repeat (first | refine VC.seq ?_ | refine VC.block ?_ | refine VC.skip ?_)
  refine VC.region ?_
  refine VR.pure rfl rfl (p_moveI rfl) ?_
  refine VR.pure rfl rfl (p_moveL rfl) ?_
  refine VR.pure rfl rfl (p_len Try.underlying29 rfl) ?_
  refine VR.pure rfl rfl (p_lt rfl rfl) ?_
  refine VR.nil ?_
  repeat (first | refine VC.seq ?_ | refine VC.block ?_ | refine VC.skip ?_)
  refine VC.condD rfl (fun h => ?_) (fun h => ?_)
  · have hk' : k < n + 12 := by omega
    obtain ⟨b, off, blk, T, fr, hA, hb, hcc⟩ := Row.elem Ak.len hr (by decide) (by omega)
    rw [hA]
    by_cases h4 : k < n
    · obtain ⟨p, hp, hpm⟩ := get_of (xs := ps) (k := k) (by omega)
      obtain ⟨o, cs, ho, hcs, hlo2⟩ := htr.get hp
      obtain ⟨b2, off2, blk2, T2, fr2, hB, hb2, hc2⟩ := Row.elem Ak.len hs (by decide) (by omega)
      rw [hB]
      have hLH : ∀ L ∈ cs, ∀ p ∈ L, F.heap p.1 = some p.2 := fun L hL => hbs L (List.mem_flatten.2 ⟨cs, List.mem_of_getElem? hcs, hL⟩)
      repeat (first | refine VC.seq ?_ | refine VC.block ?_ | refine VC.skip ?_)
      refine VC.loud (Kept F []) [13, 30, 31] rfl (by kernel_rfl) (Kept.of0 hm.drew) ?_
      replace hm := hm.drew
      refine VL.pure rfl rfl rfl (p_moveI rfl) ?_
      refine VL.pure rfl rfl rfl (p_moveL rfl) ?_
      refine VL.pure rfl rfl rfl (p_len Try.underlying29 rfl) ?_
      refine VL.pure rfl rfl rfl (p_lt rfl rfl) ?_
      refine VL.pure rfl rfl rfl (p_moveB rfl) ?_
      refine VL.knownT 27 rfl (decide_eq_true (by omega)) ?_
      refine VL.pureG rfl rfl rfl (p_moveL rfl) ?_
      refine VL.pureG rfl rfl rfl (p_moveI rfl) ?_
      refine VL.pureG rfl rfl rfl (p_idxN Try.underlying29 Try.sizeOf31 rfl rfl hk') ?_
      refine VL.readG rfl rfl rfl (fun w' hw' => r_loadAgg (vs := o.h.cs) Try.isAgg31 Try.sizeOf31 rfl (hw'.fix _ _ hb) rfl (hcc k o (get_app ho _))) ?_
      refine VL.pureG rfl rfl rfl (p_moveL rfl) ?_
      refine VL.pureG rfl rfl rfl (p_moveI rfl) ?_
      refine VL.pureG rfl rfl rfl (p_idxN Try.underlying29 Try.sizeOf31 rfl rfl h4) ?_
      refine VL.readG rfl rfl rfl (fun w' hw' => r_loadAgg (vs := p.h.cs) Try.isAgg31 Try.sizeOf31 rfl (hw'.fix _ _ hb2) rfl (hc2 k p hp)) ?_
      refine VL.callG rfl rfl rfl (r_call2 Try.call14 rfl rfl) (ih _ _ _ _ _ _ hm (ht p hpm) hlo2 hLH) ?_
      rintro _ w ⟨rfl, hm⟩
      refine ⟨Kept.of0 hm, ?_⟩
      refine VL.pureG rfl rfl rfl (p_not rfl) ?_
      refine VL.pure rfl rfl rfl (p_pickT rfl rfl) ?_
      refine VL.pure rfl rfl rfl (p_moveB rfl) ?_
      refine VL.knownF 39 rfl rfl ?_
      refine VL.pureG rfl rfl rfl (p_moveI rfl) ?_
      refine VL.pureG rfl rfl rfl (p_moveL rfl) ?_
      refine VL.pureG rfl rfl rfl (p_len Try.underlying29 rfl) ?_
      refine VL.pureG rfl rfl rfl (p_ge rfl rfl) ?_
      refine VL.pureG rfl rfl rfl (p_moveB rfl) ?_
      refine VL.knownF 44 rfl (decide_eq_false (by omega)) ?_
      refine VL.pass rfl rfl ?_
      refine VL.pass rfl rfl ?_
      refine VL.pass rfl rfl ?_
      refine VL.pass rfl rfl ?_
      refine VL.pass rfl rfl ?_
      refine VL.pass rfl rfl ?_
      refine VL.pass rfl rfl ?_
      refine VL.pass rfl rfl ?_
      refine VL.pass rfl rfl ?_
      refine VL.pass rfl rfl ?_
      refine VL.pass rfl rfl ?_
      refine VL.pureG rfl rfl rfl (p_pickF rfl rfl) ?_
      refine VL.pure rfl rfl rfl (p_pickF rfl rfl) ?_
      refine VL.nil ?_
      repeat (first | refine VC.seq ?_ | refine VC.block ?_ | refine VC.skip ?_)
      refine VC.condF rfl rfl ?_
      repeat (first | refine VC.seq ?_ | refine VC.block ?_ | refine VC.skip ?_)
      repeat (first | refine VC.seq ?_ | refine VC.block ?_ | refine VC.skip ?_)
      refine VC.region ?_
      refine VR.pure rfl rfl (p_moveI rfl) ?_
      refine VR.pure rfl rfl (p_add64 rfl rfl (by omega)) ?_
      refine VR.pure rfl rfl (p_assignI rfl) ?_
      refine VR.nil ?_
      exact ⟨k + 1, ⟨rfl, rfl, rfl, rfl, trivial⟩, ⟨hm, by omega⟩, by omega⟩
    · have hz : (os ++ marksA 12)[k]? = some (mka 1 (k - n)) := by
        rw [List.getElem?_append_right (by omega), hlo.1, hl, marksA_at (by omega)]
      have he : (1000003 * (1 + 7) + ((k : Int) - n)) = mark1 1 (k - n) := by unfold mark1; omega
      repeat (first | refine VC.seq ?_ | refine VC.block ?_ | refine VC.skip ?_)
      refine VC.loud (Kept F []) [13, 30, 31] rfl (by kernel_rfl) (Kept.of0 hm.drew) ?_
      replace hm := hm.drew
      refine VL.pure rfl rfl rfl (p_moveI rfl) ?_
      refine VL.pure rfl rfl rfl (p_moveL rfl) ?_
      refine VL.pure rfl rfl rfl (p_len Try.underlying29 rfl) ?_
      refine VL.pure rfl rfl rfl (p_lt rfl rfl) ?_
      refine VL.pure rfl rfl rfl (p_moveB rfl) ?_
      refine VL.knownF 27 rfl (decide_eq_false (by omega)) ?_
      refine VL.pass rfl rfl ?_
      refine VL.pass rfl rfl ?_
      refine VL.pass rfl rfl ?_
      refine VL.pass rfl rfl ?_
      refine VL.pass rfl rfl ?_
      refine VL.pass rfl rfl ?_
      refine VL.pass rfl rfl ?_
      refine VL.pass rfl rfl ?_
      refine VL.pass rfl rfl ?_
      refine VL.pass rfl rfl ?_
      refine VL.pure rfl rfl rfl (p_pickF rfl rfl) ?_
      refine VL.pure rfl rfl rfl (p_moveB rfl) ?_
      refine VL.pureG rfl rfl rfl (p_moveI rfl) ?_
      refine VL.pureG rfl rfl rfl (p_moveL rfl) ?_
      refine VL.pureG rfl rfl rfl (p_len Try.underlying29 rfl) ?_
      refine VL.pureG rfl rfl rfl (p_ge rfl rfl) ?_
      refine VL.pureG rfl rfl rfl (p_moveB rfl) ?_
      refine VL.knownT 44 rfl (decide_eq_true (by omega)) ?_
      refine VL.pureG rfl rfl rfl (p_moveL rfl) ?_
      refine VL.pureG rfl rfl rfl (p_moveI rfl) ?_
      refine VL.pureG rfl rfl rfl (p_idxN Try.underlying29 Try.sizeOf31 rfl rfl hk') ?_
      refine VL.readG rfl rfl rfl (fun w' hw' => r_loadAgg (vs := (mka 1 (k - n)).h.cs) Try.isAgg31 Try.sizeOf31 rfl (hw'.fix _ _ hb) rfl (hcc k _ hz)) ?_
      refine VL.pureG rfl rfl rfl (p_moveI rfl) ?_
      refine VL.pureG rfl rfl rfl (p_moveL rfl) ?_
      refine VL.pureG rfl rfl rfl (p_len Try.underlying29 rfl) ?_
      refine VL.pureG rfl rfl rfl (p_sub64 rfl rfl (by omega)) ?_
      refine VL.callG rfl rfl rfl (r_call2 Try.call52 rfl rfl) ((markAsk_c hm (by omega))) ?_
      rintro _ w ⟨rfl, hm⟩
      refine ⟨Kept.of0 hm, ?_⟩
      rw [he]
      refine VL.callG rfl rfl rfl (r_call2 Try.call36 rfl rfl) (same_ask_c 1 _ _ _ (mka 1 (k - n)) (mka 1 (k - n)) hm (mka_tree _ _ _) (mka_tree _ _ _) (mka_same _ _ _)) ?_
      rintro _ w ⟨rfl, hm⟩
      refine ⟨Kept.of0 hm, ?_⟩
      refine VL.pureG rfl rfl rfl (p_not rfl) ?_
      refine VL.pureG rfl rfl rfl (p_pickT rfl rfl) ?_
      refine VL.pure rfl rfl rfl (p_pickF rfl rfl) ?_
      refine VL.nil ?_
      repeat (first | refine VC.seq ?_ | refine VC.block ?_ | refine VC.skip ?_)
      refine VC.condF rfl rfl ?_
      repeat (first | refine VC.seq ?_ | refine VC.block ?_ | refine VC.skip ?_)
      repeat (first | refine VC.seq ?_ | refine VC.block ?_ | refine VC.skip ?_)
      refine VC.region ?_
      refine VR.pure rfl rfl (p_moveI rfl) ?_
      refine VR.pure rfl rfl (p_add64 rfl rfl (by omega)) ?_
      refine VR.pure rfl rfl (p_assignI rfl) ?_
      refine VR.nil ?_
      exact ⟨k + 1, ⟨rfl, rfl, rfl, rfl, trivial⟩, ⟨hm, by omega⟩, by omega⟩
  · repeat (first | refine VC.seq ?_ | refine VC.block ?_ | refine VC.skip ?_)
    refine VC.exit ?_
    repeat (first | refine VC.seq ?_ | refine VC.block ?_ | refine VC.skip ?_)
    refine VC.region ?_
    refine VR.pure rfl rfl (p_assignB rfl) ?_
    refine VR.nil ?_
    repeat (first | refine VC.seq ?_ | refine VC.block ?_ | refine VC.skip ?_)
    refine VC.ret ⟨_, ResOf.r1 (v := .bool _) rfl rfl, ?_⟩
    exact ⟨rfl, hm⟩

set_option maxHeartbeats 2000000 in
theorem keptA_c : ∀ k, KeptOk k
  | 0 => fun _ _ _ _ _ _ _ h => False.elim h
  | k + 1 => by
    intro F w Ls a o bs hm ha hlent hH
    have hts := LentA.tree _ _ _ _ hlent hH
    have hsa := LentA.same _ _ _ _ hlent
    have ha' := ha
    obtain ⟨⟨c, dA, dc, mA, mc, pA, pc⟩, ps⟩ := a
    obtain ⟨⟨c', dA', dc', mA', mc', pA', pc'⟩, os⟩ := o
    obtain ⟨hc, hsm, hpl, hml, hdl, LD, LM, LP, css, rfl, hod, hom, hop, htr⟩ := hlent
    obtain rfl : c' = c := hc
    obtain ⟨_, hd, hmm, hp, ht⟩ := ha'
    obtain ⟨hs1, hs2, hs3⟩ := hsm
    have hld := hod.le
    have hlm := hom.le
    have hlp := hop.le
    have hrd := hod.row (hH LD (by simp))
    have hrm := hom.row (hH LM (by simp))
    have hrp := hop.row (hH LP (by simp))
    rw [Nat.mul_one] at hrd
    have hHc : ∀ L ∈ css.flatten, ∀ p ∈ L, F.heap p.1 = some p.2 := fun L hL => hH L (by
      simp only [List.mem_cons, List.mem_append]
      exact .inr (.inl hL))
    dsimp only at hs1 hs2 hs3 hd hmm hp hpl hld hlm hlp hrd hrm hrp ⊢
    refine Calls.of_vc Try.func14 rfl Try.ntmps14 rfl ?_
    repeat (first | refine VC.seq ?_ | refine VC.block ?_ | refine VC.skip ?_)
    refine VC.region ?_
    refine VR.new hm rfl rfl (n_boxG rfl) ?_
    intro b1 w hm
    refine VR.new hm rfl rfl (n_boxG rfl) ?_
    intro b2 w hm
    refine VR.pure rfl rfl (p_assignB rfl) ?_
    refine VR.nil ?_
    repeat (first | refine VC.seq ?_ | refine VC.block ?_ | refine VC.skip ?_)
    refine VC.region ?_
    refine VR.val rfl rfl (r_loadAgg (vs := (Ah.cs ⟨c', dA', dc', mA', mc', pA', pc'⟩)) Try.isAgg31 Try.sizeOf31 rfl (hm.at_ 1 0 rfl) rfl (agg_at rfl)) ?_
    refine VR.val rfl rfl (r_loadAgg (vs := (Ah.cs ⟨c', dA, dc, mA, mc, pA, pc⟩)) Try.isAgg31 Try.sizeOf31 rfl (hm.at_ 0 0 rfl) rfl (agg_at rfl)) ?_
    refine VR.call rfl rfl (r_call2 Try.call36 rfl rfl) (same_ask_c (k + 1) _ _ _ (.mk ⟨c', dA', dc', mA', mc', pA', pc'⟩ os) (.mk ⟨c', dA, dc, mA, mc, pA, pc⟩ ps) hm hts ha hsa) ?_
    rintro _ w ⟨rfl, hm⟩
    refine VR.pure rfl rfl (p_moveB rfl) ?_
    refine VR.knownT 8 rfl rfl ?_
    refine VR.pureG rfl rfl (p_field (fo := 5) Try.underlying31 rfl Try.sizeOf27 rfl rfl rfl) ?_
    refine VR.valG rfl rfl (r_load (v := .slice _ _ _) Try.isAgg27 rfl (hm.at_ 1 0 rfl) rfl) ?_
    refine VR.pureG rfl rfl (p_field (fo := 5) Try.underlying31 rfl Try.sizeOf27 rfl rfl rfl) ?_
    refine VR.valG rfl rfl (r_load (v := .slice _ _ _) Try.isAgg27 rfl (hm.at_ 0 0 rfl) rfl) ?_
    refine VR.callG rfl rfl (r_call2 Try.call37 rfl rfl) (keptB_c (n := c'.dn) hm hs1 hld.1 hrd hd) ?_
    rintro _ w ⟨rfl, hm⟩
    refine VR.pure rfl rfl (p_pickT rfl rfl) ?_
    refine VR.pure rfl rfl (p_moveB rfl) ?_
    refine VR.knownT 15 rfl rfl ?_
    refine VR.pureG rfl rfl (p_field (fo := 13) Try.underlying31 rfl Try.sizeOf23 rfl rfl rfl) ?_
    refine VR.valG rfl rfl (r_load (v := .slice _ _ _) Try.isAgg23 rfl (hm.at_ 1 0 rfl) rfl) ?_
    refine VR.pureG rfl rfl (p_field (fo := 13) Try.underlying31 rfl Try.sizeOf23 rfl rfl rfl) ?_
    refine VR.valG rfl rfl (r_load (v := .slice _ _ _) Try.isAgg23 rfl (hm.at_ 0 0 rfl) rfl) ?_
    refine VR.callG rfl rfl (r_call2 Try.call35 rfl rfl) (keptM_c (n := c'.mn) hm (by omega) hlm.1 hrm hmm) ?_
    rintro _ w ⟨rfl, hm⟩
    refine VR.pure rfl rfl (p_pickT rfl rfl) ?_
    refine VR.pure rfl rfl (p_moveB rfl) ?_
    refine VR.knownT 22 rfl rfl ?_
    refine VR.pureG rfl rfl (p_field (fo := 14) Try.underlying31 rfl Try.sizeOf29 rfl rfl rfl) ?_
    refine VR.valG rfl rfl (r_load (v := .slice _ _ _) Try.isAgg29 rfl (hm.at_ 1 0 rfl) rfl) ?_
    refine VR.pureG rfl rfl (p_field (fo := 14) Try.underlying31 rfl Try.sizeOf29 rfl rfl rfl) ?_
    refine VR.valG rfl rfl (r_load (v := .slice _ _ _) Try.isAgg29 rfl (hm.at_ 0 0 rfl) rfl) ?_
    refine VR.callG rfl rfl (r_call2 Try.call38 rfl rfl) (keptAs_c (n := c'.pn) (keptA_c k) hm hs3 hlp.1 hrp htr hHc hp ht) ?_
    rintro _ w ⟨rfl, hm⟩
    refine VR.pure rfl rfl (p_pickT rfl rfl) ?_
    refine VR.pure rfl rfl (p_assignB rfl) ?_
    refine VR.nil ?_
    repeat (first | refine VC.seq ?_ | refine VC.block ?_ | refine VC.skip ?_)
    refine VC.ret ⟨_, ResOf.r1 (v := .bool _) rfl rfl, ?_⟩
    exact ⟨rfl, hm.pop.pop⟩

def OverOk (k : Nat) : Prop := ∀ (F : Env) (w : World) (Ls : List Blks) (a o : Ak) (bs : List Blks), Mem F w (bs ++ Ls) → LentA k a o bs →
  Calls Try.prog 16 #[.agg o.h.arr] w (Ret fun v w' => Mem F w' Ls)

set_option maxHeartbeats 2000000 in
theorem overAs_c {q : Nat} (ih : OverOk q) {F : Env} {w : World} {Ls : List Blks} {A : Option Addr} {n c : Nat} {ps os : List Ak} {css : List (List Blks)} {L : Blks} (hm : Mem F w (L :: (css.flatten ++ Ls))) (hn : n * 168 ≤ 140737488355328) (ho : OwnS 31 15 A (n + 12) c (acells (os ++ marksA 12)) L)
    (htr : Trio (LentA q) ps os css) (hen : ps.length = n) :
    Calls Try.prog 41 #[.slice A n c] w (Ret fun v w' => Mem F w' Ls) := by
  have hle := ho.le
  have hlen := htr.len
  rcases ho.2 with ⟨_, h0, _⟩ | ⟨g, cur, rfl, rfl, h1, h2, h3, _⟩
  · omega
  have hat : ∀ i x, (os ++ marksA 12)[i]? = some x → ∀ j, j < 15 → cur[0 + i * 15 + j]? = x.cells[j]? := fun i x hx j hj => by
    obtain ⟨b, off, cur', e1, e2, hcc⟩ := ho.toO.elem Ak.len (by decide) (by omega)
    simp only [Option.some.injEq, Addr.mk.injEq] at e1
    obtain ⟨rfl, rfl, _⟩ := e1
    simp only [List.cons.injEq, Prod.mk.injEq, Obj.cells.injEq] at e2
    obtain rfl := e2.1.2.1
    exact hcc i x hx j hj
  refine Calls.of_vc Try.func41 rfl Try.ntmps41 rfl ?_
  repeat (first | refine VC.seq ?_ | refine VC.block ?_ | refine VC.skip ?_)
  refine VC.region ?_
  refine VR.pure rfl rfl (p_assignI rfl) ?_
  refine VR.nil ?_
  repeat (first | refine VC.seq ?_ | refine VC.block ?_ | refine VC.skip ?_)
  refine VC.loop (σ := Nat) (fun k => [(0, .slice (some ⟨g, 0, none⟩) n c), (2, .int .i64 k)]) (fun k w => k ≤ n ∧ Mem F w ([(g, .cells cur 31 (0, 0))] :: ((css.drop k).flatten ++ Ls))) (fun k => n - k) 0 ⟨rfl, rfl, trivial⟩ ⟨by omega, hm⟩ ?_
  clear hm
  rintro k A' w ⟨hk, hm⟩
  repeat (first | refine VC.seq ?_ | refine VC.block ?_ | refine VC.skip ?_)
  refine VC.region ?_
  refine VR.pure rfl rfl (p_moveI rfl) ?_
  refine VR.pure rfl rfl (p_moveL rfl) ?_
  refine VR.pure rfl rfl (p_len Try.underlying29 rfl) ?_
  refine VR.pure rfl rfl (p_lt rfl rfl) ?_
  refine VR.nil ?_
  repeat (first | refine VC.seq ?_ | refine VC.block ?_ | refine VC.skip ?_)
  refine VC.condD rfl (fun h => ?_) (fun h => ?_)
  · have hk' : k < n := by omega
    obtain ⟨p, hp, hpm⟩ := get_of (xs := ps) (k := k) (by omega)
    obtain ⟨o, cs, hoo, hcs, hlo⟩ := htr.get hp
    have hd : css.drop k = cs :: css.drop (k + 1) := by
      obtain ⟨hlt, hx⟩ := List.getElem?_eq_some_iff.1 hcs
      rw [List.drop_eq_getElem_cons hlt, hx]
    rw [hd] at hm
    have hm' : Mem F w (cs ++ ([(g, .cells cur 31 (0, 0))] :: ((css.drop (k + 1)).flatten ++ Ls))) := hm.permF (by
      simp only [List.flatten_cons, List.flatten_append, List.append_assoc]
      rw [← List.append_assoc, ← List.append_assoc cs.flatten]
      exact (List.perm_append_comm).append_right _)
    repeat (first | refine VC.seq ?_ | refine VC.block ?_ | refine VC.skip ?_)
    repeat (first | refine VC.seq ?_ | refine VC.block ?_ | refine VC.skip ?_)
    refine VC.region ?_
    refine VR.pure rfl rfl (p_moveL rfl) ?_
    refine VR.pure rfl rfl (p_moveI rfl) ?_
    refine VR.pure rfl rfl (p_idxN Try.underlying29 Try.sizeOf31 rfl rfl hk') ?_
    refine VR.val rfl rfl (r_loadAgg (vs := o.h.cs) Try.isAgg31 Try.sizeOf31 rfl (hm.at_ 0 0 rfl) rfl (hat k o (get_app hoo _))) ?_
    refine VR.call rfl rfl (r_call1 Try.call16 rfl) (ih _ _ _ _ _ _ hm' hlo) ?_
    rintro v w hm
    refine VR.nil ?_
    repeat (first | refine VC.seq ?_ | refine VC.block ?_ | refine VC.skip ?_)
    refine VC.region ?_
    refine VR.pure rfl rfl (p_moveI rfl) ?_
    refine VR.pure rfl rfl (p_add64 rfl rfl (by omega)) ?_
    refine VR.pure rfl rfl (p_assignI rfl) ?_
    refine VR.nil ?_
    exact ⟨k + 1, ⟨rfl, rfl, trivial⟩, ⟨by omega, hm⟩, by omega⟩
  · repeat (first | refine VC.seq ?_ | refine VC.block ?_ | refine VC.skip ?_)
    refine VC.exit ?_
    have hkn : k = n := by omega
    have hdn : css.drop k = [] := List.drop_eq_nil_of_le (by omega)
    rw [hdn] at hm
    repeat (first | refine VC.seq ?_ | refine VC.block ?_ | refine VC.skip ?_)
    refine VC.region ?_
    refine VR.pure rfl rfl (p_moveL rfl) ?_
    refine VR.pure rfl rfl (p_moveL rfl) ?_
    refine VR.pure rfl rfl (p_len Try.underlying29 rfl) ?_
    refine VR.pure rfl rfl (p_add64E (r := ((n + 12 : Nat) : Int)) rfl rfl (by omega) (by omega)) ?_
    refine VR.pure rfl rfl (p_sliceHN (h := n + 12) Try.underlying29 Try.sizeOf31 rfl rfl (by omega)) ?_
    refine VR.pure rfl rfl (p_assignL rfl) ?_
    refine VR.nil ?_
    repeat (first | refine VC.seq ?_ | refine VC.block ?_ | refine VC.skip ?_)
    refine VC.region ?_
    refine VR.pure rfl rfl (p_assignI rfl) ?_
    refine VR.nil ?_
    repeat (first | refine VC.seq ?_ | refine VC.block ?_ | refine VC.skip ?_)
    refine VC.loop (σ := Nat × Array Value) (fun s => [(3, .slice (some ⟨g, 0, none⟩) (n + 12) c), (4, .int .i64 s.1)])
      (fun s w => s.1 ≤ n + 12 ∧ s.2.size = c * 15 ∧ Mem F w ([(g, .cells s.2 31 (0, 0))] :: Ls)) (fun s => n + 12 - s.1) (0, cur) ⟨rfl, rfl, trivial⟩ ⟨by omega, h3, hm⟩ ?_
    clear hm
    rintro ⟨k, cur⟩ A' w ⟨hk, hs, hm⟩
    dsimp only at hk hs hm ⊢
    repeat (first | refine VC.seq ?_ | refine VC.block ?_ | refine VC.skip ?_)
    refine VC.region ?_
    refine VR.pure rfl rfl (p_moveI rfl) ?_
    refine VR.pure rfl rfl (p_moveL rfl) ?_
    refine VR.pure rfl rfl (p_len Try.underlying29 rfl) ?_
    refine VR.pure rfl rfl (p_lt rfl rfl) ?_
    refine VR.nil ?_
    repeat (first | refine VC.seq ?_ | refine VC.block ?_ | refine VC.skip ?_)
    refine VC.condD rfl (fun h => ?_) (fun h => ?_)
    · repeat (first | refine VC.seq ?_ | refine VC.block ?_ | refine VC.skip ?_)
      obtain ⟨cur', hcur, hsz⟩ : ∃ cur', (lay cur (0 + k * 15) [.int .u8 0, .int .i64 (1000003 * (2 + 7) + (k : Int)), .int .i64 0, .int .i64 0, .string ⟨#[]⟩, .slice none 0 0, .int .i64 0, .int .i64 0, .bool false, .int .u8 0, .int .i64 0, .int .i64 0, .int .i64 0, .slice none 0 0, .slice none 0 0]) = cur' ∧ cur'.size = c * 15 := ⟨_, rfl, by rw [lay_size]; exact hs⟩
      repeat (first | refine VC.seq ?_ | refine VC.block ?_ | refine VC.skip ?_)
      refine VC.region ?_
      refine VR.pure rfl rfl (p_moveL rfl) ?_
      refine VR.pure rfl rfl (p_moveI rfl) ?_
      refine VR.pure rfl rfl (p_moveI rfl) ?_
      refine VR.call rfl rfl (r_call2 Try.call52 rfl rfl) (markAsk_c hm (by omega)) ?_
      rintro _ w ⟨rfl, hm⟩
      refine VR.pure rfl rfl (p_idxN Try.underlying29 Try.sizeOf31 rfl rfl (by omega : k < n + 12)) ?_
      refine VR.store (cs' := cur') (v := .agg _) Try.sizeOf31 rfl rfl rfl rfl rfl hm 0 0 rfl (by omega) hcur ?_
      intro w hm
      refine VR.nil ?_
      repeat (first | refine VC.seq ?_ | refine VC.block ?_ | refine VC.skip ?_)
      refine VC.region ?_
      refine VR.pure rfl rfl (p_moveI rfl) ?_
      refine VR.pure rfl rfl (p_add64 rfl rfl (by omega)) ?_
      refine VR.pure rfl rfl (p_assignI rfl) ?_
      refine VR.nil ?_
      exact ⟨(k + 1, cur'), ⟨rfl, rfl, trivial⟩, ⟨by omega, hsz, hm⟩, by omega⟩
    · repeat (first | refine VC.seq ?_ | refine VC.block ?_ | refine VC.skip ?_)
      refine VC.exit ?_
      repeat (first | refine VC.seq ?_ | refine VC.block ?_ | refine VC.skip ?_)
      exact ⟨_, ResOf.r0 rfl, hm.pop⟩

set_option maxHeartbeats 2000000 in
theorem overA_c : ∀ k, OverOk k
  | 0 => fun _ _ _ _ _ _ _ h => False.elim h
  | k + 1 => by
    intro F w Ls a o bs hm hlent
    obtain ⟨⟨c, dA, dc, mA, mc, pA, pc⟩, ps⟩ := a
    obtain ⟨⟨c', dA', dc', mA', mc', pA', pc'⟩, os⟩ := o
    obtain ⟨hc, hsm, hpl, hml, hdl, LD, LM, LP, css, rfl, hod, hom, hop, htr⟩ := hlent
    obtain rfl : c' = c := hc
    obtain ⟨hs1, hs2, hs3⟩ := hsm
    dsimp only at hs1 hs2 hs3 hpl hod hom hop ⊢
    have hm1 : Mem F w (LD :: LM :: LP :: (css.flatten ++ Ls)) := by
      have h1 : Mem F w (LM :: ((LP :: css.flatten) ++ (LD :: Ls))) := Mem.bring (A := LP :: css.flatten) (x := LM) (B := LD :: Ls) (by simpa using hm)
      exact Mem.bring (A := LM :: LP :: css.flatten) (x := LD) (B := Ls) h1
    clear hm
    refine Calls.of_vc Try.func16 rfl Try.ntmps16 rfl ?_
    repeat (first | refine VC.seq ?_ | refine VC.block ?_ | refine VC.skip ?_)
    refine VC.region ?_
    refine VR.new hm1 rfl rfl (n_boxG rfl) ?_
    intro b1 w hm1
    refine VR.nil ?_
    repeat (first | refine VC.seq ?_ | refine VC.block ?_ | refine VC.skip ?_)
    refine VC.region ?_
    refine VR.pure rfl rfl (p_field (fo := 5) Try.underlying31 rfl Try.sizeOf27 rfl rfl rfl) ?_
    refine VR.val rfl rfl (r_load (v := .slice _ _ _) Try.isAgg27 rfl (hm1.at_ 0 0 rfl) rfl) ?_
    replace hm1 := hm1.swap
    refine VR.call rfl rfl (r_call1 Try.call40 rfl) (overB_c (n := c'.dn) hm1 hs1 hod) ?_
    rintro v1 w hm1
    refine VR.nil ?_
    repeat (first | refine VC.seq ?_ | refine VC.block ?_ | refine VC.skip ?_)
    refine VC.region ?_
    refine VR.pure rfl rfl (p_field (fo := 13) Try.underlying31 rfl Try.sizeOf23 rfl rfl rfl) ?_
    refine VR.val rfl rfl (r_load (v := .slice _ _ _) Try.isAgg23 rfl (hm1.at_ 0 0 rfl) rfl) ?_
    replace hm1 := hm1.swap
    refine VR.call rfl rfl (r_call1 Try.call39 rfl) (overM_c (n := c'.mn) hm1 (by omega) hom) ?_
    rintro v1 w hm1
    refine VR.nil ?_
    repeat (first | refine VC.seq ?_ | refine VC.block ?_ | refine VC.skip ?_)
    refine VC.region ?_
    refine VR.pure rfl rfl (p_field (fo := 14) Try.underlying31 rfl Try.sizeOf29 rfl rfl rfl) ?_
    refine VR.val rfl rfl (r_load (v := .slice _ _ _) Try.isAgg29 rfl (hm1.at_ 0 0 rfl) rfl) ?_
    replace hm1 : Mem F w (LP :: (css.flatten ++ ([(b1, .cells (Ah.arr ⟨c', dA', dc', mA', mc', pA', pc'⟩) 31 (0, 0))] :: Ls))) := hm1.swap.permF (by
    simp only [List.flatten_cons, List.flatten_append]
    refine (List.Perm.refl _).append ?_
    rw [← List.append_assoc, ← List.append_assoc]
    exact (List.perm_append_comm).append_right _)
    refine VR.call rfl rfl (r_call1 Try.call41 rfl) (overAs_c (n := c'.pn) (overA_c k) hm1 hs3 hop htr hpl) ?_
    rintro v1 w hm1
    refine VR.nil ?_
    exact ⟨_, ResOf.r0 rfl, hm1.pop⟩
end Go.Bd
