/- Contracts of layer 10: what a link lets out, and takes. Conditions: as each states. -/
import Derived.Test.Ytfaihpikeagpcaa10a
namespace Go.Bd
open Go.Proofs
set_option linter.unusedVariables false
set_option maxRecDepth 20000

structure Pk where
  from_ : Int
  to : Int
  seq : Int
  ack : Int
  load : List Int
deriving DecidableEq
def Lk.ok (k : Lk) : Prop := 0 ≤ k.acked ∧ k.acked < 1000000000000 ∧ 0 ≤ k.got ∧ k.got < 1000000000000
def Lk.out (k : Lk) : Pk :=
  if ¬ k.there then ⟨0, 0, 0, 0, []⟩
  else match k.wait with
    | [] => ⟨k.inc, k.peer, 0, k.got, []⟩
    | l :: _ => if 0 < k.peer then ⟨k.inc, k.peer, k.acked + 1, k.got, l⟩ else ⟨k.inc, k.peer, 0, k.got, []⟩

theorem OwnO.elem {X : Type} {g : X → List Value} {s : Nat} {e : TypeId} (hg : ∀ x, (g x).length = s) {A : Option Addr} {n c : Nat} {ws : List X} {L : Blks} (ho : OwnO e s A n c (ws.flatMap g) L) (hs : 0 < s) (hn : 0 < n) :
    ∃ b off cur, A = some ⟨b, off, none⟩ ∧ L = [(b, .cells cur e (0, 0))] ∧ ∀ i x, ws[i]? = some x → ∀ j, j < s → cur[off + i * s + j]? = (g x)[j]? := by
  rcases ho.2 with ⟨_, rfl, _, _⟩ | ⟨b, off, cur, rfl, rfl, _, _, _, ht⟩
  · omega
  · refine ⟨b, off, cur, rfl, rfl, fun i x hx j hj => ?_⟩
    have hi : i < ws.length := (List.getElem?_eq_some_iff.1 hx).1
    have hl := ho.1
    rw [flat_len hg] at hl
    have hlt : i * s + j < n * s := by
      rw [← hl]
      have : (i + 1) * s ≤ ws.length * s := Nat.mul_le_mul_right s hi
      rw [Nat.add_mul] at this
      omega
    rw [Nat.add_assoc, ← flat_at hg hx hj, ← ht, List.getElem?_take, if_pos hlt, List.getElem?_drop, Array.getElem?_toList]

theorem out_none {F : Env} {w : World} {Ls : List Blks} (hm : Mem F w Ls) : Calls Try.prog 14 #[.pointer none] w (Ret fun v w' => v = .agg #[.int .i64 0, .int .i64 0, .int .i64 0, .int .i64 0, .slice none 0 0] ∧ Mem F w' Ls) := by
  refine Calls.of_vc Try.func14 rfl Try.ntmps14 rfl ?_
  repeat (first | refine VC.seq ?_ | refine VC.block ?_ | refine VC.skip ?_)
  refine VC.region ?_
  refine VR.new hm rfl rfl (n_allocG Try.zeroValue24) ?_
  intro b2 w hm
  refine VR.nil ?_
  repeat (first | refine VC.seq ?_ | refine VC.block ?_ | refine VC.skip ?_)
  refine VC.region ?_
  refine VR.pure rfl rfl (p_moveP rfl) ?_
  refine VR.call rfl rfl (r_call1 Try.call32 rfl) (there_none) ?_
  rintro _ w ⟨rfl, rfl⟩
  refine VR.pure rfl rfl (p_not rfl) ?_
  refine VR.nil ?_
  repeat (first | refine VC.seq ?_ | refine VC.block ?_ | refine VC.skip ?_)
  refine VC.condT rfl rfl ?_
  repeat (first | refine VC.seq ?_ | refine VC.block ?_ | refine VC.skip ?_)
  refine VC.region ?_
  refine VR.pure rfl rfl (p_build (vs := []) bld24_0x rfl) ?_
  refine VR.store (cs' := #[.int .i64 0, .int .i64 0, .int .i64 0, .int .i64 0, .slice none 0 0]) (v := .agg _) Try.sizeOf24 rfl rfl rfl rfl rfl hm 0 0 rfl (Nat.ble_eq.mp rfl) rfl ?_
  intro w hm
  refine VR.nil ?_
  repeat (first | refine VC.seq ?_ | refine VC.block ?_ | refine VC.skip ?_)
  refine VC.ret ⟨_, ResOf.r1 (v := .agg _) rfl ⟨_, rfl, run_loadVarAgg Try.isAgg24 Try.sizeOf24 (hm.at_ 0 0 rfl) (vs := [.int .i64 0, .int .i64 0, .int .i64 0, .int .i64 0, .slice none 0 0]) rfl (agg_at rfl)⟩, ?_⟩
  exact ⟨rfl, hm.pop⟩

set_option maxHeartbeats 4000000 in
theorem out_c {F : Env} {w : World} {Ls : List Blks} {g : Nat} {k : Lk} {cs : Array Value} {L : Blks} (hm : Mem F w ([(g, .cells cs 33 (0, 0))] :: L :: Ls)) (hk : LkAt F.heap k cs L) (hko : k.ok) :
    Calls Try.prog 14 #[.pointer (some ⟨g, 0, none⟩)] w
      (Ret fun v w' => ∃ A' c' L', v = .agg #[.int .i64 k.out.from_, .int .i64 k.out.to, .int .i64 k.out.seq, .int .i64 k.out.ack, .slice A' k.out.load.length c'] ∧
        OwnS 5 1 A' k.out.load.length c' (bytes k.out.load) L' ∧ Mem F w' (L' :: [(g, .cells cs 33 (0, 0))] :: L :: Ls)) := by
  obtain ⟨A, n, c, ws, rfl, ho, hws, hwo⟩ := hk
  have hl := bcells_len ho
  unfold Lk.ok at hko
  refine Calls.of_vc Try.func14 rfl Try.ntmps14 rfl ?_
  repeat (first | refine VC.seq ?_ | refine VC.block ?_ | refine VC.skip ?_)
  refine VC.region ?_
  refine VR.new hm rfl rfl (n_allocG Try.zeroValue24) ?_
  intro b2 w hm
  refine VR.nil ?_
  repeat (first | refine VC.seq ?_ | refine VC.block ?_ | refine VC.skip ?_)
  refine VC.region ?_
  refine VR.pure rfl rfl (p_moveP rfl) ?_
  refine VR.call rfl rfl (r_call1 Try.call32 rfl) (there_c hm.pop) ?_
  rintro _ w ⟨rfl, rfl⟩
  refine VR.pure rfl rfl (p_notD rfl) ?_
  refine VR.nil ?_
  repeat (first | refine VC.seq ?_ | refine VC.block ?_ | refine VC.skip ?_)
  refine VC.condD rfl (fun h => ?_) (fun h => ?_)
  · repeat (first | refine VC.seq ?_ | refine VC.block ?_ | refine VC.skip ?_)
    refine VC.region ?_
    refine VR.pure rfl rfl (p_build (vs := []) bld24_0x rfl) ?_
    refine VR.store (cs' := #[.int .i64 0, .int .i64 0, .int .i64 0, .int .i64 0, .slice none 0 0]) (v := .agg _) Try.sizeOf24 rfl rfl rfl rfl rfl hm 0 0 rfl (Nat.ble_eq.mp rfl) rfl ?_
    intro w hm
    refine VR.nil ?_
    repeat (first | refine VC.seq ?_ | refine VC.block ?_ | refine VC.skip ?_)
    refine VC.ret ⟨_, ResOf.r1 (v := .agg _) rfl ⟨_, rfl, run_loadVarAgg Try.isAgg24 Try.sizeOf24 (hm.at_ 0 0 rfl) (vs := [.int .i64 0, .int .i64 0, .int .i64 0, .int .i64 0, .slice none 0 0]) rfl (agg_at rfl)⟩, ?_⟩
    have e : k.out = ⟨0, 0, 0, 0, []⟩ := by unfold Lk.out; rw [if_pos (show ¬ k.there from h)]
    rw [e]
    exact ⟨none, 0, [], rfl, OwnS.nil _ _, hm.pop.nil_⟩
  · have h' : ¬ ¬ k.there := h
    repeat (first | refine VC.seq ?_ | refine VC.block ?_ | refine VC.skip ?_)
    refine VC.loud (Kept F ([(g, .cells #[.int .i64 k.inc, .int .i64 k.peer, .int .i64 k.acked, .int .i64 k.got, .slice A n c] 33 (0, 0))] :: L :: Ls)) [15, 16] rfl (by kernel_rfl) (Kept.here1 hm.drew) ?_
    replace hm := hm.drew
    refine VL.pure rfl rfl rfl (p_moveP rfl) ?_
    refine VL.pure rfl rfl rfl (p_nilCheck rfl) ?_
    refine VL.pure rfl rfl rfl (p_field (fo := 0) Try.underlying33 rfl Try.sizeOf3 rfl rfl rfl) ?_
    refine VL.read rfl rfl rfl (fun w' hw' => r_load (v := .int _ _) Try.isAgg3 rfl (hw'.at_ 0 0 rfl) rfl) ?_
    refine VL.pure rfl rfl rfl (p_moveP rfl) ?_
    refine VL.pure rfl rfl rfl (p_nilCheck rfl) ?_
    refine VL.pure rfl rfl rfl (p_field (fo := 1) Try.underlying33 rfl Try.sizeOf31 rfl rfl rfl) ?_
    refine VL.pure rfl rfl rfl (p_field (fo := 0) Try.underlying31 rfl Try.sizeOf3 rfl rfl rfl) ?_
    refine VL.read rfl rfl rfl (fun w' hw' => r_load (v := .int _ _) Try.isAgg3 rfl (hw'.at_ 0 0 rfl) rfl) ?_
    refine VL.pure rfl rfl rfl (p_moveP rfl) ?_
    refine VL.pure rfl rfl rfl (p_nilCheck rfl) ?_
    refine VL.pure rfl rfl rfl (p_field (fo := 1) Try.underlying33 rfl Try.sizeOf31 rfl rfl rfl) ?_
    refine VL.pure rfl rfl rfl (p_field (fo := 2) Try.underlying31 rfl Try.sizeOf3 rfl rfl rfl) ?_
    refine VL.read rfl rfl rfl (fun w' hw' => r_load (v := .int _ _) Try.isAgg3 rfl (hw'.at_ 0 0 rfl) rfl) ?_
    refine VL.pure rfl rfl rfl (p_build (vs := [(0, .int _ _), (1, .int _ _), (3, .int _ _)]) bld24_0_1_3 rfl) ?_
    refine VL.new hm rfl rfl rfl (n_allocG Try.zeroValue24) (fun b' w' hm' => Kept.here2 hm') ?_
    intro b3 w hm
    refine VL.store (cs' := #[.int .i64 k.inc, .int .i64 k.peer, .int .i64 0, .int .i64 k.got, .slice none 0 0]) (v := .agg _) Try.sizeOf24 rfl rfl rfl rfl rfl rfl hm 0 0 rfl (Nat.ble_eq.mp rfl) rfl (fun w' hm' => Kept.here2 hm') ?_
    intro w hm
    refine VL.nil ?_
    by_cases hp : 0 < k.peer
    · by_cases hn : 0 < n
      · obtain ⟨w0, wr, hwe⟩ : ∃ w0 wr, ws = w0 :: wr := by
          match ws, hl with
          | [], hl => simp at hl; omega
          | a :: b, _ => exact ⟨a, b, rfl⟩
        have hw0 := hwo w0 (by rw [hwe]; exact .head _)
        have hw00 : ws[0]? = some w0 := by rw [hwe]; rfl
        have hln := hw0.1.len
        have e : k.out = ⟨k.inc, k.peer, k.acked + 1, k.got, w0.bs⟩ := by
          unfold Lk.out
          rw [if_neg h', ← hws, hwe, List.map_cons]
          show (if 0 < k.peer then _ else _) = _
          rw [if_pos hp]
        obtain ⟨bw, offw, cur, rfl, rfl, hcc⟩ := ho.elem Bs.len (by decide) hn
        repeat (first | refine VC.seq ?_ | refine VC.block ?_ | refine VC.skip ?_)
        refine VC.region ?_
        refine VR.pure rfl rfl (p_moveP rfl) ?_
        refine VR.pure rfl rfl (p_nilCheck rfl) ?_
        refine VR.pure rfl rfl (p_field (fo := 1) Try.underlying33 rfl Try.sizeOf31 rfl rfl rfl) ?_
        refine VR.pure rfl rfl (p_field (fo := 0) Try.underlying31 rfl Try.sizeOf3 rfl rfl rfl) ?_
        refine VR.val rfl rfl (r_load (v := .int _ _) Try.isAgg3 rfl (hm.at_ 2 0 rfl) rfl) ?_
        refine VR.pure rfl rfl (p_gt rfl rfl) ?_
        refine VR.pure rfl rfl (p_moveB rfl) ?_
        refine VR.knownT 29 rfl (decide_eq_true hp) ?_
        refine VR.pureG rfl rfl (p_moveP rfl) ?_
        refine VR.pureG rfl rfl (p_nilCheck rfl) ?_
        refine VR.pureG rfl rfl (p_field (fo := 1) Try.underlying33 rfl Try.sizeOf31 rfl rfl rfl) ?_
        refine VR.pureG rfl rfl (p_field (fo := 3) Try.underlying31 rfl Try.sizeOf29 rfl rfl rfl) ?_
        refine VR.valG rfl rfl (r_load (v := .slice _ _ _) Try.isAgg29 rfl (hm.at_ 2 0 rfl) rfl) ?_
        refine VR.pureG rfl rfl (p_len Try.underlying29 rfl) ?_
        refine VR.pureG rfl rfl (p_gt rfl rfl) ?_
        refine VR.pure rfl rfl (p_pickT rfl rfl) ?_
        refine VR.nil ?_
        repeat (first | refine VC.seq ?_ | refine VC.block ?_ | refine VC.skip ?_)
        refine VC.condT rfl (decide_eq_true (by omega)) ?_
        repeat (first | refine VC.seq ?_ | refine VC.block ?_ | refine VC.skip ?_)
        refine VC.loud (Kept F ([(g, .cells #[.int .i64 k.inc, .int .i64 k.peer, .int .i64 k.acked, .int .i64 k.got, .slice (some ⟨bw, offw, none⟩) n c] 33 (0, 0))] :: [(bw, .cells cur 22 (0, 0))] :: Ls)) [13, 15, 17] rfl (by kernel_rfl) (Kept.here2 hm.drew) ?_
        replace hm := hm.drew
        refine VL.pure rfl rfl rfl (p_moveP rfl) ?_
        refine VL.pure rfl rfl rfl (p_nilCheck rfl) ?_
        refine VL.pure rfl rfl rfl (p_field (fo := 1) Try.underlying33 rfl Try.sizeOf31 rfl rfl rfl) ?_
        refine VL.pure rfl rfl rfl (p_field (fo := 1) Try.underlying31 rfl Try.sizeOf3 rfl rfl rfl) ?_
        refine VL.read rfl rfl rfl (fun w' hw' => r_load (v := .int _ _) Try.isAgg3 rfl (hw'.at_ 0 0 rfl) rfl) ?_
        refine VL.pure rfl rfl rfl (p_add64 rfl rfl (by omega)) ?_
        refine VL.pure rfl rfl rfl (p_moveP rfl) ?_
        refine VL.pure rfl rfl rfl (p_nilCheck rfl) ?_
        refine VL.pure rfl rfl rfl (p_field (fo := 1) Try.underlying33 rfl Try.sizeOf31 rfl rfl rfl) ?_
        refine VL.pure rfl rfl rfl (p_field (fo := 3) Try.underlying31 rfl Try.sizeOf29 rfl rfl rfl) ?_
        refine VL.read rfl rfl rfl (fun w' hw' => r_load (v := .slice _ _ _) Try.isAgg29 rfl (hw'.at_ 0 0 rfl) rfl) ?_
        refine VL.pure rfl rfl rfl (p_idx1 (j := 0) Try.underlying29 Try.sizeOf22 rfl rfl hn) ?_
        refine VL.read rfl rfl rfl (fun w' hw' => r_load (v := .slice _ _ _) Try.isAgg22 rfl (hw'.at_ 1 0 rfl) (hcc 0 w0 hw00 0 (by decide))) ?_
        refine VL.call rfl rfl rfl (r_call1 Try.call33 rfl) (cloneB_c hm (by have := hw0.2; omega) hw0.1) ?_
        rintro _ w ⟨A7, c7, L7, rfl, ho7, hm⟩
        refine ⟨Kept.here3 hm, ?_⟩
        refine VL.pure rfl rfl rfl (p_field (fo := 2) Try.underlying24 rfl Try.sizeOf3 rfl rfl rfl) ?_
        refine VL.store (cs' := #[.int .i64 k.inc, .int .i64 k.peer, .int .i64 (k.acked + 1), .int .i64 k.got, .slice none 0 0]) (v := .int _ _) Try.sizeOf3 rfl rfl rfl rfl rfl rfl hm 1 0 rfl (Nat.ble_eq.mp rfl) rfl (fun w' hm' => Kept.here3 hm') ?_
        intro w hm
        refine VL.pure rfl rfl rfl (p_field (fo := 4) Try.underlying24 rfl Try.sizeOf22 rfl rfl rfl) ?_
        refine VL.store (cs' := #[.int .i64 k.inc, .int .i64 k.peer, .int .i64 (k.acked + 1), .int .i64 k.got, .slice A7 w0.n c7]) (v := .slice _ _ _) Try.sizeOf22 rfl rfl rfl rfl rfl rfl hm 1 0 rfl (Nat.ble_eq.mp rfl) rfl (fun w' hm' => Kept.here3 hm') ?_
        intro w hm
        refine VL.nil ?_
        repeat (first | refine VC.seq ?_ | refine VC.block ?_ | refine VC.skip ?_)
        refine VC.region ?_
        refine VR.val rfl rfl (r_loadAgg (vs := [.int _ _, .int _ _, .int _ _, .int _ _, .slice _ _ _]) Try.isAgg24 Try.sizeOf24 rfl (hm.at_ 1 0 rfl) rfl (agg_at rfl)) ?_
        refine VR.store (cs' := #[.int .i64 k.inc, .int .i64 k.peer, .int .i64 (k.acked + 1), .int .i64 k.got, .slice A7 w0.n c7]) (v := .agg _) Try.sizeOf24 rfl rfl rfl rfl rfl hm 2 0 rfl (Nat.ble_eq.mp rfl) rfl ?_
        intro w hm
        refine VR.nil ?_
        repeat (first | refine VC.seq ?_ | refine VC.block ?_ | refine VC.skip ?_)
        refine VC.ret ⟨_, ResOf.r1 (v := .agg _) rfl ⟨_, rfl, run_loadVarAgg Try.isAgg24 Try.sizeOf24 (hm.at_ 2 0 rfl) (vs := [.int .i64 k.inc, .int .i64 k.peer, .int .i64 (k.acked + 1), .int .i64 k.got, .slice A7 w0.n c7]) rfl (agg_at rfl)⟩, ?_⟩
        rw [e]
        dsimp only
        rw [hln]
        exact ⟨A7, c7, L7, rfl, ho7, hm.pop2.pop2⟩
      · have hn0 : n = 0 := by omega
        have hwe : ws = [] := List.eq_nil_of_length_eq_zero (by omega)
        have e : k.out = ⟨k.inc, k.peer, 0, k.got, []⟩ := by
          unfold Lk.out
          rw [if_neg h', ← hws, hwe]
          rfl
        repeat (first | refine VC.seq ?_ | refine VC.block ?_ | refine VC.skip ?_)
        refine VC.region ?_
        refine VR.pure rfl rfl (p_moveP rfl) ?_
        refine VR.pure rfl rfl (p_nilCheck rfl) ?_
        refine VR.pure rfl rfl (p_field (fo := 1) Try.underlying33 rfl Try.sizeOf31 rfl rfl rfl) ?_
        refine VR.pure rfl rfl (p_field (fo := 0) Try.underlying31 rfl Try.sizeOf3 rfl rfl rfl) ?_
        refine VR.val rfl rfl (r_load (v := .int _ _) Try.isAgg3 rfl (hm.at_ 2 0 rfl) rfl) ?_
        refine VR.pure rfl rfl (p_gt rfl rfl) ?_
        refine VR.pure rfl rfl (p_moveB rfl) ?_
        refine VR.knownT 29 rfl (decide_eq_true hp) ?_
        refine VR.pureG rfl rfl (p_moveP rfl) ?_
        refine VR.pureG rfl rfl (p_nilCheck rfl) ?_
        refine VR.pureG rfl rfl (p_field (fo := 1) Try.underlying33 rfl Try.sizeOf31 rfl rfl rfl) ?_
        refine VR.pureG rfl rfl (p_field (fo := 3) Try.underlying31 rfl Try.sizeOf29 rfl rfl rfl) ?_
        refine VR.valG rfl rfl (r_load (v := .slice _ _ _) Try.isAgg29 rfl (hm.at_ 2 0 rfl) rfl) ?_
        refine VR.pureG rfl rfl (p_len Try.underlying29 rfl) ?_
        refine VR.pureG rfl rfl (p_gt rfl rfl) ?_
        refine VR.pure rfl rfl (p_pickT rfl rfl) ?_
        refine VR.nil ?_
        repeat (first | refine VC.seq ?_ | refine VC.block ?_ | refine VC.skip ?_)
        refine VC.condF rfl (decide_eq_false (by omega)) ?_
        repeat (first | refine VC.seq ?_ | refine VC.block ?_ | refine VC.skip ?_)
        refine VC.region ?_
        refine VR.val rfl rfl (r_loadAgg (vs := [.int _ _, .int _ _, .int _ _, .int _ _, .slice _ _ _]) Try.isAgg24 Try.sizeOf24 rfl (hm.at_ 0 0 rfl) rfl (agg_at rfl)) ?_
        refine VR.store (cs' := #[.int .i64 k.inc, .int .i64 k.peer, .int .i64 0, .int .i64 k.got, .slice none 0 0]) (v := .agg _) Try.sizeOf24 rfl rfl rfl rfl rfl hm 1 0 rfl (Nat.ble_eq.mp rfl) rfl ?_
        intro w hm
        refine VR.nil ?_
        repeat (first | refine VC.seq ?_ | refine VC.block ?_ | refine VC.skip ?_)
        refine VC.ret ⟨_, ResOf.r1 (v := .agg _) rfl ⟨_, rfl, run_loadVarAgg Try.isAgg24 Try.sizeOf24 (hm.at_ 1 0 rfl) (vs := [.int .i64 k.inc, .int .i64 k.peer, .int .i64 0, .int .i64 k.got, .slice none 0 0]) rfl (agg_at rfl)⟩, ?_⟩
        rw [e]
        exact ⟨none, 0, [], rfl, OwnS.nil _ _, hm.pop.pop.nil_⟩
    · have e : k.out = ⟨k.inc, k.peer, 0, k.got, []⟩ := by
        unfold Lk.out
        rw [if_neg h']
        cases k.wait with
        | nil => rfl
        | cons a b =>
          show (if 0 < k.peer then _ else _) = _
          rw [if_neg hp]
      repeat (first | refine VC.seq ?_ | refine VC.block ?_ | refine VC.skip ?_)
      refine VC.region ?_
      refine VR.pure rfl rfl (p_moveP rfl) ?_
      refine VR.pure rfl rfl (p_nilCheck rfl) ?_
      refine VR.pure rfl rfl (p_field (fo := 1) Try.underlying33 rfl Try.sizeOf31 rfl rfl rfl) ?_
      refine VR.pure rfl rfl (p_field (fo := 0) Try.underlying31 rfl Try.sizeOf3 rfl rfl rfl) ?_
      refine VR.val rfl rfl (r_load (v := .int _ _) Try.isAgg3 rfl (hm.at_ 2 0 rfl) rfl) ?_
      refine VR.pure rfl rfl (p_gt rfl rfl) ?_
      refine VR.pure rfl rfl (p_moveB rfl) ?_
      refine VR.knownF 29 rfl (decide_eq_false hp) ?_
      refine VR.pass rfl rfl ?_
      refine VR.pass rfl rfl ?_
      refine VR.pass rfl rfl ?_
      refine VR.pass rfl rfl ?_
      refine VR.pass rfl rfl ?_
      refine VR.pass rfl rfl ?_
      refine VR.pass rfl rfl ?_
      refine VR.pure rfl rfl (p_pickF rfl rfl) ?_
      refine VR.nil ?_
      repeat (first | refine VC.seq ?_ | refine VC.block ?_ | refine VC.skip ?_)
      refine VC.condF rfl rfl ?_
      repeat (first | refine VC.seq ?_ | refine VC.block ?_ | refine VC.skip ?_)
      refine VC.region ?_
      refine VR.val rfl rfl (r_loadAgg (vs := [.int _ _, .int _ _, .int _ _, .int _ _, .slice _ _ _]) Try.isAgg24 Try.sizeOf24 rfl (hm.at_ 0 0 rfl) rfl (agg_at rfl)) ?_
      refine VR.store (cs' := #[.int .i64 k.inc, .int .i64 k.peer, .int .i64 0, .int .i64 k.got, .slice none 0 0]) (v := .agg _) Try.sizeOf24 rfl rfl rfl rfl rfl hm 1 0 rfl (Nat.ble_eq.mp rfl) rfl ?_
      intro w hm
      refine VR.nil ?_
      repeat (first | refine VC.seq ?_ | refine VC.block ?_ | refine VC.skip ?_)
      refine VC.ret ⟨_, ResOf.r1 (v := .agg _) rfl ⟨_, rfl, run_loadVarAgg Try.isAgg24 Try.sizeOf24 (hm.at_ 1 0 rfl) (vs := [.int .i64 k.inc, .int .i64 k.peer, .int .i64 0, .int .i64 k.got, .slice none 0 0]) rfl (agg_at rfl)⟩, ?_⟩
      rw [e]
      exact ⟨none, 0, [], rfl, OwnS.nil _ _, hm.pop.pop.nil_⟩

def Lk.meet (k : Lk) (p : Pk) : Lk × Bool :=
  if k.peer < p.from_ then (if 0 < k.peer then (⟨k.inc, p.from_, 0, 0, []⟩, true) else (⟨k.inc, p.from_, 0, 0, k.wait⟩, false)) else (k, false)
def Lk.done (k : Lk) (p : Pk) : Lk := if p.ack = k.acked + 1 ∧ k.wait ≠ [] then ⟨k.inc, k.peer, k.acked + 1, k.got, k.wait.tail⟩ else k
/-- What taking a packet comes to: the load that is told, whether the connection broke, the link behind it. -/
def Lk.take (k : Lk) (p : Pk) : Option (List Int) × Bool × Lk :=
  if ¬ k.there ∨ p.from_ < 1 ∨ p.from_ < k.peer then (none, false, k)
  else if p.to ≠ k.inc then (none, (k.meet p).2, (k.meet p).1)
  else if p.seq ≠ ((k.meet p).1.done p).got + 1 then (none, (k.meet p).2, (k.meet p).1.done p)
  else (some p.load, (k.meet p).2, ⟨((k.meet p).1.done p).inc, ((k.meet p).1.done p).peer, ((k.meet p).1.done p).acked, ((k.meet p).1.done p).got + 1, ((k.meet p).1.done p).wait⟩)

theorem take_none {F : Env} {w : World} {Ls : List Blks} {p : Pk} {B : Option Addr} {m d : Nat} (hm : Mem F w Ls) :
    Calls Try.prog 9 #[.pointer none, .agg #[.int .i64 p.from_, .int .i64 p.to, .int .i64 p.seq, .int .i64 p.ack, .slice B m d]] w (Ret fun v w' => v = .tuple #[.slice none 0 0, .bool false, .bool false] ∧ Mem F w' Ls) := by
  refine Calls.of_vc Try.func9 rfl Try.ntmps9 rfl ?_
  repeat (first | refine VC.seq ?_ | refine VC.block ?_ | refine VC.skip ?_)
  refine VC.region ?_
  refine VR.new hm rfl rfl (n_boxG rfl) ?_
  intro b3 w hm
  refine VR.pure rfl rfl (p_assignL rfl) ?_
  refine VR.pure rfl rfl (p_assignB rfl) ?_
  refine VR.pure rfl rfl (p_assignB rfl) ?_
  refine VR.nil ?_
  repeat (first | refine VC.seq ?_ | refine VC.block ?_ | refine VC.skip ?_)
  refine VC.loud (Kept F []) [1] rfl (by kernel_rfl) (Kept.of0 hm.drew) ?_
  replace hm := hm.drew
  refine VL.pure rfl rfl rfl (p_moveP rfl) ?_
  refine VL.call rfl rfl rfl (r_call1 Try.call32 rfl) (there_none) ?_
  rintro _ w ⟨rfl, rfl⟩
  refine ⟨Kept.of0 hm, ?_⟩
  refine VL.pure rfl rfl rfl (p_not rfl) ?_
  refine VL.pure rfl rfl rfl (p_moveB rfl) ?_
  refine VL.knownT 11 rfl rfl ?_
  refine VL.pass rfl rfl ?_
  refine VL.pass rfl rfl ?_
  refine VL.pass rfl rfl ?_
  refine VL.pure rfl rfl rfl (p_pickT rfl rfl) ?_
  refine VL.pure rfl rfl rfl (p_moveB rfl) ?_
  refine VL.pass rfl rfl ?_
  refine VL.pass rfl rfl ?_
  refine VL.pass rfl rfl ?_
  refine VL.pass rfl rfl ?_
  refine VL.pass rfl rfl ?_
  refine VL.pass rfl rfl ?_
  refine VL.pass rfl rfl ?_
  refine VL.pass rfl rfl ?_
  refine VL.pure rfl rfl rfl (p_pickT rfl rfl) ?_
  refine VL.nil ?_
  repeat (first | refine VC.seq ?_ | refine VC.block ?_ | refine VC.skip ?_)
  refine VC.condT rfl rfl ?_
  repeat (first | refine VC.seq ?_ | refine VC.block ?_ | refine VC.skip ?_)
  refine VC.region ?_
  refine VR.pure rfl rfl (p_assignL rfl) ?_
  refine VR.pure rfl rfl (p_assignB rfl) ?_
  refine VR.pure rfl rfl (p_assignB rfl) ?_
  refine VR.nil ?_
  repeat (first | refine VC.seq ?_ | refine VC.block ?_ | refine VC.skip ?_)
  refine VC.ret ⟨_, ResOf.r3 (v := .slice _ _ _) (u := .bool _) (x := .bool _) rfl rfl rfl rfl, ?_⟩
  exact ⟨rfl, hm.pop⟩

end Go.Bd
