/- DiskCrashes: a crash leaves of each file a beginning that reaches to what was synced at least, and no file more or less. Conditions: none. -/
import Derived.Test.Ytjohjlhjeommiaa08n
import Derived.Test.Ytjohjlhjeommiaa08k
namespace Go.Bd
open Go.Proofs Go.ChangeShapes Go.WideShapes
set_option linter.unusedVariables false
set_option maxRecDepth 20000

theorem bring_own (X : Blks) (A B : List Blks) : (A ++ (X :: B)).flatten.Perm (X :: (A ++ B)).flatten := by
  simp only [List.flatten_cons, List.flatten_append]
  rw [← List.append_assoc, ← List.append_assoc]
  exact (List.perm_append_comm).append_right _
theorem Mem.front {F : Env} {w : World} {X : Blks} {A B : List Blks} (h : Mem F w (A ++ (X :: B))) : Mem F w (X :: (A ++ B)) := h.permF (bring_own X A B)
theorem Mem.behind {F : Env} {w : World} {X : Blks} {A B : List Blks} (h : Mem F w (X :: (A ++ B))) : Mem F w (A ++ (X :: B)) := h.permF (bring_own X A B).symm
/-- With what is synced, and with more. -/
def F1 (xs : List Rw) (j : Nat) : Fa := (nm j, rowAt xs j, ((rowAt xs j).length : Int))
def F2 (xs ys : List Rw) (i j : Nat) : Fa := (nm j, if j < i then rowAt xs j ++ rowAt ys j else rowAt xs j, ((rowAt xs j).length : Int))
/-- What a crash leaves. -/
def left1 (xs ys : List Rw) (keep : Int) (j : Nat) : List Int := if j < ys.length then rowAt xs j ++ (rowAt ys j).take (min (max keep 0) ((rowAt ys j).length : Int)).toNat else rowAt xs j
def F3 (xs ys : List Rw) (keep : Int) (j : Nat) : Fa := (nm j, left1 xs ys keep j, ((left1 xs ys keep j).length : Int))
theorem nice1 {xs : List Rw} {k : Nat} (hk : k ≤ 20) (h : ∀ j, j < k → (rowAt xs j).length ≤ 2000) : Nice k (F1 xs) := ⟨hk, fun j hj => ⟨rfl, by have := h j hj; show (rowAt xs j).length ≤ 4000; omega⟩⟩
theorem nice2 {xs ys : List Rw} {n i : Nat} (hn : n ≤ 20) (h : ∀ j, j < n → (rowAt xs j).length ≤ 2000) (h2 : ∀ j, j < i → (rowAt ys j).length ≤ 2000) : Nice n (F2 xs ys i) := ⟨hn, fun j hj => ⟨rfl, by
  have h3 := h j hj
  show (if j < i then rowAt xs j ++ rowAt ys j else rowAt xs j).length ≤ 4000
  split
  · have := h2 j (by assumption)
    rw [List.length_append]
    omega
  · omega⟩⟩
theorem cr_step1 {xs : List Rw} {k : Nat} : dk (k + 1) (fun j => if j = k then ((if j = k then (nm k, rowAt xs k, (0 : Int)) else F1 xs j).1, (if j = k then (nm k, rowAt xs k, (0 : Int)) else F1 xs j).2.1, (((if j = k then (nm k, rowAt xs k, (0 : Int)) else F1 xs j).2.1.length : Nat) : Int)) else (if j = k then (nm k, rowAt xs k, (0 : Int)) else F1 xs j)) = dk (k + 1) (F1 xs) := dk_congr fun j _ => by
  by_cases e : j = k
  · subst e
    rw [if_pos rfl, if_pos rfl]
    rfl
  · rw [if_neg e, if_neg e]
theorem cr_step2 {xs ys : List Rw} {n i : Nat} : dk n (fun j => if j = i then ((F2 xs ys i j).1, (F2 xs ys i j).2.1 ++ rowAt ys i, (F2 xs ys i j).2.2) else F2 xs ys i j) = dk n (F2 xs ys (i + 1)) := dk_congr fun j _ => by
  by_cases e : j = i
  · subst e
    rw [if_pos rfl]
    unfold F2
    rw [if_neg (by omega), if_pos (by omega)]
  · rw [if_neg e]
    unfold F2
    by_cases h : j < i
    · rw [if_pos h, if_pos (by omega)]
    · rw [if_neg h, if_neg (by omega)]
theorem cr_crash {xs ys : List Rw} {n i : Nat} (hi : i ≤ ys.length) (hin : i = ys.length ∨ n ≤ i) (keep : Int) : crashD (dk n (F2 xs ys i)) keep = dk n (F3 xs ys keep) := by
  rw [crash_dk]
  refine dk_congr fun j hj => ?_
  have hl : ∀ l m : List Int, (l ++ m).take (l.length + (min (max keep 0) (m.length : Int)).toNat) = l ++ m.take (min (max keep 0) (m.length : Int)).toNat := fun l m => by
    rw [List.take_append, List.take_of_length_le (by omega), Nat.add_sub_cancel_left]
  unfold F2 F3 left1 cutF keepN
  dsimp only
  by_cases h : j < ys.length
  · rw [if_pos (show j < i by omega), if_pos h]
    have e : ((rowAt xs j).length + min (max keep 0) (((rowAt xs j ++ rowAt ys j).length : Nat) - ((rowAt xs j).length : Int)) : Int).toNat = (rowAt xs j).length + (min (max keep 0) ((rowAt ys j).length : Int)).toNat := by
      rw [List.length_append]
      omega
    rw [e, hl]
    refine congrArg (Prod.mk (nm j)) (congrArg (Prod.mk _) ?_)
    rw [List.length_append, List.length_take]
    omega
  · rw [if_neg (show ¬ j < i by omega), if_neg h]
    have e : ((rowAt xs j).length + min (max keep 0) (((rowAt xs j).length : Int) - ((rowAt xs j).length : Int)) : Int).toNat = (rowAt xs j).length := by omega
    rw [e, List.take_length]
theorem nice3 {xs ys : List Rw} {n i : Nat} {keep : Int} (hn : n ≤ 20) (h : ∀ j, j < n → (rowAt xs j).length ≤ 2000) (h2 : ∀ j, j < i → (rowAt ys j).length ≤ 2000) (hin : i = ys.length ∨ n ≤ i) : Nice n (F3 xs ys keep) := ⟨hn, fun j hj => ⟨rfl, by
  have h3 := h j hj
  show (left1 xs ys keep j).length ≤ 4000
  unfold left1
  split
  · have := h2 j (by omega)
    rw [List.length_append, List.length_take]
    omega
  · omega⟩⟩
theorem cr_again {xs ys : List Rw} {n : Nat} {keep again : Int} : crashD (dk n (F3 xs ys keep)) again = dk n (F3 xs ys keep) := by
  rw [crash_dk]
  refine dk_congr fun j hj => ?_
  unfold F3 cutF keepN
  dsimp only
  have e : (((left1 xs ys keep j).length : Int) + min (max again 0) (((left1 xs ys keep j).length : Int) - ((left1 xs ys keep j).length : Int))).toNat = (left1 xs ys keep j).length := by omega
  rw [e, List.take_length]
theorem texts_app (a b : List ByteArray) : texts (a ++ b) = texts a ++ texts b := List.map_append
theorem nms_at {n i : Nat} (h : i < n) : ((List.range n).map nm)[i]? = some (nm i) := by
  rw [List.getElem?_map, List.getElem?_range h]
  rfl
theorem nms_len (n : Nat) : ((List.range n).map nm).length = n := by rw [List.length_map, List.length_range]

set_option maxHeartbeats 16000000 in
theorem disk_crashes_c {F : Env} {w : World} {A B : Option Addr} {n c q d : Nat} {xs ys : List Rw} {keep again : Int} (hm : Mem F w []) (hr : Row F.heap A n (rwcells xs)) (hx : ∀ x ∈ xs, RwOk F.heap x) (hl : xs.length = n)
    (hs : Row F.heap B q (rwcells ys)) (hy : ∀ x ∈ ys, RwOk F.heap x) (hl2 : ys.length = q) :
    Calls Try.prog 6 #[.slice A n c, .slice B q d, .int .i64 keep, .int .i64 again] w (Ret fun v w' => v = .bool true ∧ Mem F w' []) := by
  refine Calls.of_vc Try.func6 rfl Try.ntmps6 rfl ?_
  repeat (first | refine VC.seq ?_ | refine VC.block ?_ | refine VC.skip ?_)
  refine VC.region ?_
  refine VR.pure rfl rfl (p_assignB rfl) ?_
  refine VR.nil ?_
  repeat (first | refine VC.seq ?_ | refine VC.block ?_ | refine VC.skip ?_)
  refine VC.region ?_
  refine VR.call rfl rfl (r_call0 Try.call10) (awake_c hm) ?_
  rintro _ w ⟨rfl, hm⟩
  refine VR.pure rfl rfl (p_not rfl) ?_
  refine VR.nil ?_
  repeat (first | refine VC.seq ?_ | refine VC.block ?_ | refine VC.skip ?_)
  refine VC.condF rfl rfl ?_
  repeat (first | refine VC.seq ?_ | refine VC.block ?_ | refine VC.skip ?_)
  refine VC.region ?_
  refine VR.pure rfl rfl (p_moveL rfl) ?_
  refine VR.pure rfl rfl (p_len Try.underlying46 rfl) ?_
  refine VR.pure rfl rfl (p_gt rfl rfl) ?_
  refine VR.pure rfl rfl (p_moveB rfl) ?_
  refine VR.splitD 24 rfl (fun h3 => ?_) (fun h3 => ?_)
  refine VR.pass rfl rfl ?_
  refine VR.pass rfl rfl ?_
  refine VR.pass rfl rfl ?_
  refine VR.pure rfl rfl (p_pickT rfl rfl) ?_
  refine VR.nil ?_
  rotate_left 1
  refine VR.pureG rfl rfl (p_moveL rfl) ?_
  refine VR.pureG rfl rfl (p_len Try.underlying46 rfl) ?_
  refine VR.pureG rfl rfl (p_gt rfl rfl) ?_
  refine VR.pure rfl rfl (p_pickF rfl rfl) ?_
  refine VR.nil ?_
  rotate_left 1
  · repeat (first | refine VC.seq ?_ | refine VC.block ?_ | refine VC.skip ?_)
    refine VC.condT rfl rfl ?_
    repeat (first | refine VC.seq ?_ | refine VC.block ?_ | refine VC.skip ?_)
    refine VC.region ?_
    refine VR.pure rfl rfl (p_assignB rfl) ?_
    refine VR.nil ?_
    repeat (first | refine VC.seq ?_ | refine VC.block ?_ | refine VC.skip ?_)
    refine VC.ret ⟨_, ResOf.r1 (v := .bool _) rfl rfl, ?_⟩
    exact ⟨rfl, hm⟩
  · repeat (first | refine VC.seq ?_ | refine VC.block ?_ | refine VC.skip ?_)
    refine VC.condD rfl (fun h6 => ?_) (fun h6 => ?_)
    · repeat (first | refine VC.seq ?_ | refine VC.block ?_ | refine VC.skip ?_)
      refine VC.region ?_
      refine VR.pure rfl rfl (p_assignB rfl) ?_
      refine VR.nil ?_
      repeat (first | refine VC.seq ?_ | refine VC.block ?_ | refine VC.skip ?_)
      refine VC.ret ⟨_, ResOf.r1 (v := .bool _) rfl rfl, ?_⟩
      exact ⟨rfl, hm⟩
    · repeat (first | refine VC.seq ?_ | refine VC.block ?_ | refine VC.skip ?_)
      refine VC.region ?_
      refine VR.call rfl rfl (r_call1 Try.call11 rfl) (newK hm (by decide) (c := 1073741824) (by decide)) ?_
      rintro _ w ⟨g, m, D0, rfl, ha0, hD0, hm⟩
      refine VR.pure rfl rfl (p_assignP rfl) ?_
      refine VR.nil ?_
      repeat (first | refine VC.seq ?_ | refine VC.block ?_ | refine VC.skip ?_)
      refine VC.region ?_
      refine VR.pure rfl rfl (p_assignL rfl) ?_
      refine VR.nil ?_
      repeat (first | refine VC.seq ?_ | refine VC.block ?_ | refine VC.skip ?_)
      refine VC.region ?_
      refine VR.pure rfl rfl (p_assignI rfl) ?_
      refine VR.nil ?_
      repeat (first | refine VC.seq ?_ | refine VC.block ?_ | refine VC.skip ?_)
      refine VC.loop (σ := Nat × Dk × (Option Addr × Nat × Blks)) (fun s => [(0, .slice A n c), (1, .slice B q d), (2, .int .i64 keep), (3, .int .i64 again), (9, .pointer (some ⟨g, 0, none⟩)), (10, .slice s.2.2.1 s.1 s.2.2.2.1), (11, .int .i64 s.1)])
        (fun s w => s.1 ≤ n ∧ DkOk s.2.1 ∧ s.2.1.abs = dk s.1 (F1 xs) ∧ (∀ j, j < s.1 → (rowAt xs j).length ≤ 2000) ∧ OwnS 9 1 s.2.2.1 s.1 s.2.2.2.1 (texts ((List.range s.1).map nm)) s.2.2.2.2 ∧ Mem F w (s.2.2.2.2 :: (dkB g m s.2.1 ++ []))) (fun s => n - s.1)
        (0, D0, none, 0, []) ⟨rfl, rfl, rfl, rfl, rfl, rfl, rfl, trivial⟩ ⟨by omega, hD0, ha0, by omega, OwnS.nil _ _, hm.nil_⟩ ?_
      clear hm hD0 ha0
      rintro ⟨i, D, An, cn, Ln⟩ A1 w ⟨hi, hD, ha, hshort, ho, hm⟩
      dsimp only at hi hD ha hshort ho hm ⊢
      repeat (first | refine VC.seq ?_ | refine VC.block ?_ | refine VC.skip ?_)
      refine VC.region ?_
      refine VR.pure rfl rfl (p_moveI rfl) ?_
      refine VR.pure rfl rfl (p_moveL rfl) ?_
      refine VR.pure rfl rfl (p_len Try.underlying46 rfl) ?_
      refine VR.pure rfl rfl (p_lt rfl rfl) ?_
      refine VR.nil ?_
      repeat (first | refine VC.seq ?_ | refine VC.block ?_ | refine VC.skip ?_)
      refine VC.condD rfl (fun h8 => ?_) (fun h8 => ?_)
      · have hi' : i < n := by omega
        obtain ⟨x, hxi, hxm⟩ := get_of (xs := xs) (k := i) (by omega)
        have hxo := hx x hxm
        obtain ⟨b, off, blk, T, fr, rfl, hb, hc⟩ := Row.get hr (by omega)
        have hcx := (hc i hi').trans (rw_at hxi)
        have hxl := BRow.len hxo.1
        repeat (first | refine VC.seq ?_ | refine VC.block ?_ | refine VC.skip ?_)
        refine VC.region ?_
        refine VR.pure rfl rfl (p_moveL rfl) ?_
        refine VR.pure rfl rfl (p_moveI rfl) ?_
        refine VR.pure rfl rfl (p_idx1 Try.underlying46 Try.sizeOf22 rfl rfl hi') ?_
        refine VR.val rfl rfl (r_load (v := .slice _ _ _) Try.isAgg22 rfl (hm.fix _ _ hb) hcx) ?_
        refine VR.pure rfl rfl (p_len Try.underlying22 rfl) ?_
        refine VR.pure rfl rfl (p_gt rfl rfl) ?_
        refine VR.nil ?_
        repeat (first | refine VC.seq ?_ | refine VC.block ?_ | refine VC.skip ?_)
        refine VC.condD rfl (fun h10 => ?_) (fun h10 => ?_)
        · repeat (first | refine VC.seq ?_ | refine VC.block ?_ | refine VC.skip ?_)
          refine VC.region ?_
          refine VR.pure rfl rfl (p_assignB rfl) ?_
          refine VR.nil ?_
          repeat (first | refine VC.seq ?_ | refine VC.block ?_ | refine VC.skip ?_)
          refine VC.ret ⟨_, ResOf.r1 (v := .bool _) rfl rfl, ?_⟩
          exact ⟨rfl, (show Mem F w [] from hm.subF (List.nil_sublist _))⟩
        · have hrow : rowAt xs i = x.l := rowAt_of hxi
          have hnice := nice1 (xs := xs) (k := i) (by omega) hshort
          have hnok := nm_ok (i := i) (by omega)
          repeat (first | refine VC.seq ?_ | refine VC.block ?_ | refine VC.skip ?_)
          refine VC.region ?_
          refine VR.pure rfl rfl (p_moveI rfl) ?_
          refine VR.pure rfl rfl (p_add64 rfl rfl (by omega)) ?_
          refine VR.pure rfl rfl (p_conv Try.underlying3 Try.underlying5 rfl) ?_
          refine VR.new hm rfl rfl (n_buildSlice1 (vs := [.int _ _, .int _ _]) Try.underlying22 inf5 rfl rfl rfl rfl rfl rfl rfl) ?_
          intro b45 w hm
          refine VR.val rfl rfl (r_convB Try.underlying22 Try.underlying5 Try.underlying9 rfl (Row.lit (cs := bytes [102, IntKind.u8.wrap (97 + (i : Int))]) (hm.at_ 0 0 rfl)) (show strOfNums [102, IntKind.u8.wrap (97 + (i : Int))] = nm i from rfl)) ?_
          refine VR.pure rfl rfl (p_assignZ rfl) ?_
          refine VR.nil ?_
          replace hm := hm.pop
          repeat (first | refine VC.seq ?_ | refine VC.block ?_ | refine VC.skip ?_)
          refine VC.region ?_
          refine VR.pure rfl rfl (p_moveL rfl) ?_
          refine VR.pure rfl rfl (p_moveZ rfl) ?_
          refine VR.new hm rfl rfl (n_buildSlice1 (vs := [.string _]) Try.underlying36 inf9 rfl rfl rfl rfl rfl rfl rfl) ?_
          intro b49 w hm
          replace hm := hm.swap
          refine VR.append (s := 1) (bytes := 16) Try.underlying36 inf9 rfl rfl rfl rfl rfl rfl rfl rfl rfl hm ho (Row.lit (cs := texts [nm i]) (hm.at_ 1 0 rfl)) (texts_one [nm i]) rfl ⟨by unfold maxLen; omega, by omega⟩ ?_
          intro A13 c13 w L13 ho13 hm
          refine VR.pure rfl rfl (p_assignL rfl) ?_
          refine VR.nil ?_
          replace hm : Mem F w (dkB g m D ++ (L13 :: [])) := (show Mem F w (L13 :: (dkB g m D ++ [])) from hm.pop2).behind
          have happ := hnice.new (b := x.l) (by omega) (by omega)
          have hn2 : Nice (i + 1) (fun j => if j = i then (nm i, x.l, 0) else F1 xs j) := ⟨by omega, fun j hj => by
            dsimp only
            by_cases e : j = i
            · rw [if_pos e]
              exact ⟨by rw [e], by show x.l.length ≤ 4000; omega⟩
            · rw [if_neg e]
              exact hnice.2 j (by omega)⟩
          repeat (first | refine VC.seq ?_ | refine VC.block ?_ | refine VC.skip ?_)
          refine VC.region ?_
          refine VR.pure rfl rfl (p_moveP rfl) ?_
          refine VR.pure rfl rfl (p_moveZ rfl) ?_
          refine VR.pure rfl rfl (p_moveL rfl) ?_
          refine VR.pure rfl rfl (p_moveI rfl) ?_
          refine VR.pure rfl rfl (p_idx1 Try.underlying46 Try.sizeOf22 rfl rfl hi') ?_
          refine VR.val rfl rfl (r_load (v := .slice _ _ _) Try.isAgg22 rfl (hm.fix _ _ hb) hcx) ?_
          refine VR.call rfl rfl (r_call3 Try.call12 rfl rfl rfl) (appK hm hD ha (by have := hnok.2; unfold maxLen; omega) hxo.2.2 hxo.1 happ) ?_
          rintro _ w ⟨D2, rfl, ha2, hD2, hm⟩
          refine VR.pure rfl rfl (p_ne rfl rfl) ?_
          refine VR.pure rfl rfl (p_moveB rfl) ?_
          refine VR.knownF 59 rfl rfl ?_
          refine VR.pureG rfl rfl (p_moveP rfl) ?_
          refine VR.pureG rfl rfl (p_moveZ rfl) ?_
          refine VR.callG rfl rfl (r_call2 Try.call13 rfl rfl) (syncK hm hD2 ha2 (hn2.sync (i := i) (by omega))) ?_
          rintro _ w ⟨D3, rfl, ha3, hD3, hm⟩
          refine VR.pureG rfl rfl (p_ne rfl rfl) ?_
          refine VR.pure rfl rfl (p_pickF rfl rfl) ?_
          refine VR.nil ?_
          repeat (first | refine VC.seq ?_ | refine VC.block ?_ | refine VC.skip ?_)
          refine VC.condF rfl rfl ?_
          repeat (first | refine VC.seq ?_ | refine VC.block ?_ | refine VC.skip ?_)
          repeat (first | refine VC.seq ?_ | refine VC.block ?_ | refine VC.skip ?_)
          refine VC.region ?_
          refine VR.pure rfl rfl (p_moveI rfl) ?_
          refine VR.pure rfl rfl (p_add64 rfl rfl (by omega)) ?_
          refine VR.pure rfl rfl (p_assignI rfl) ?_
          refine VR.nil ?_
          refine ⟨(i + 1, D3, A13, c13, L13), ⟨rfl, rfl, rfl, rfl, rfl, rfl, rfl, trivial⟩, ⟨by omega, hD3, ?_, fun j hj => ?_, ?_, hm.front⟩, by omega⟩
          · show D3.abs = dk (i + 1) (F1 xs)
            rw [ha3, ← hrow]
            exact cr_step1
          · rcases Nat.lt_or_eq_of_le (Nat.le_of_lt_succ hj) with hj | rfl
            · exact hshort j hj
            · rw [hrow]
              omega
          · show OwnS _ 1 A13 (i + 1) c13 (texts ((List.range (i + 1)).map nm)) L13
            rw [List.range_succ, List.map_append, texts_app]
            exact ho13
      · repeat (first | refine VC.seq ?_ | refine VC.block ?_ | refine VC.skip ?_)
        refine VC.exit ?_
        have hin : i = n := by omega
        clear hi h8
        subst hin
        obtain ⟨G, hu, hm, hLn⟩ := hm.freeze
        have hrn := ho.row1 hLn
        have hcn := ho.le
        clear ho hLn
        replace hr := hr.mono hu.heap
        replace hs := hs.mono hu.heap
        have hx' : ∀ x ∈ xs, RwOk G.heap x := fun x h => ⟨(hx x h).1.mono hu.heap, (hx x h).2⟩
        have hy' : ∀ x ∈ ys, RwOk G.heap x := fun x h => ⟨(hy x h).1.mono hu.heap, (hy x h).2⟩
        clear hx hy
        repeat (first | refine VC.seq ?_ | refine VC.block ?_ | refine VC.skip ?_)
        refine VC.region ?_
        refine VR.pure rfl rfl (p_assignI rfl) ?_
        refine VR.nil ?_
        repeat (first | refine VC.seq ?_ | refine VC.block ?_ | refine VC.skip ?_)
        refine VC.loop (σ := Nat × Dk) (fun s => [(0, .slice A i c), (1, .slice B q d), (2, .int .i64 keep), (3, .int .i64 again), (9, .pointer (some ⟨g, 0, none⟩)), (10, .slice An i cn), (13, .int .i64 s.1)])
          (fun s w => s.1 ≤ q ∧ s.1 ≤ i ∧ DkOk s.2 ∧ s.2.abs = dk i (F2 xs ys s.1) ∧ (∀ j, j < s.1 → (rowAt ys j).length ≤ 2000) ∧ Mem G w (dkB g m s.2 ++ [])) (fun s => q - s.1)
          (0, D) ⟨rfl, rfl, rfl, rfl, rfl, rfl, rfl, trivial⟩ ⟨by omega, by omega, hD, ha, by omega, hm⟩ ?_
        clear hm hD ha
        rintro ⟨k, D⟩ A2 w ⟨hk, hki, hD, ha, hshort2, hm⟩
        dsimp only at hk hki hD ha hshort2 hm ⊢
        have hn20 : i ≤ 20 := by omega
        repeat (first | refine VC.seq ?_ | refine VC.block ?_ | refine VC.skip ?_)
        refine VC.meet (σ := Unit) (fun _ => [(0, .slice A i c), (1, .slice B q d), (2, .int .i64 keep), (3, .int .i64 again), (9, .pointer (some ⟨g, 0, none⟩)), (10, .slice An i cn), (13, .int .i64 k), (74, .bool (decide (k < q ∧ k < i)))]) (fun _ w => Mem G w (dkB g m D ++ [])) ?_ ?_
        · by_cases hkq : k < q
          · repeat (first | refine VC.seq ?_ | refine VC.block ?_ | refine VC.skip ?_)
            refine VC.region ?_
            refine VR.pure rfl rfl (p_moveI rfl) ?_
            refine VR.pure rfl rfl (p_moveL rfl) ?_
            refine VR.pure rfl rfl (p_len Try.underlying46 rfl) ?_
            refine VR.pure rfl rfl (p_lt rfl rfl) ?_
            refine VR.pure rfl rfl (p_moveB rfl) ?_
            refine VR.knownT 69 rfl (decide_eq_true (by omega)) ?_
            refine VR.pureG rfl rfl (p_moveI rfl) ?_
            refine VR.pureG rfl rfl (p_moveL rfl) ?_
            refine VR.pureG rfl rfl (p_len Try.underlying46 rfl) ?_
            refine VR.pureG rfl rfl (p_lt rfl rfl) ?_
            refine VR.pure rfl rfl (p_pickT rfl rfl) ?_
            refine VR.nil ?_
            exact ⟨(), ⟨rfl, rfl, rfl, rfl, rfl, rfl, rfl, congrArg Value.bool (decide_eq_decide.2 ⟨fun h => ⟨hkq, by omega⟩, fun h => by omega⟩), trivial⟩, hm⟩
          · repeat (first | refine VC.seq ?_ | refine VC.block ?_ | refine VC.skip ?_)
            refine VC.region ?_
            refine VR.pure rfl rfl (p_moveI rfl) ?_
            refine VR.pure rfl rfl (p_moveL rfl) ?_
            refine VR.pure rfl rfl (p_len Try.underlying46 rfl) ?_
            refine VR.pure rfl rfl (p_lt rfl rfl) ?_
            refine VR.pure rfl rfl (p_moveB rfl) ?_
            refine VR.knownF 69 rfl (decide_eq_false (by omega)) ?_
            refine VR.pass rfl rfl ?_
            refine VR.pass rfl rfl ?_
            refine VR.pass rfl rfl ?_
            refine VR.pass rfl rfl ?_
            refine VR.pure rfl rfl (p_pickF rfl rfl) ?_
            refine VR.nil ?_
            exact ⟨(), ⟨rfl, rfl, rfl, rfl, rfl, rfl, rfl, congrArg Value.bool (decide_eq_false (fun h => hkq h.1)).symm, trivial⟩, hm⟩
        clear hm
        rintro _ A3 w hm
        repeat (first | refine VC.seq ?_ | refine VC.block ?_ | refine VC.skip ?_)
        refine VC.condD rfl (fun h17 => ?_) (fun h17 => ?_)
        · obtain ⟨hkq, hkn⟩ := h17
          obtain ⟨y, hyi, hym⟩ := get_of (xs := ys) (k := k) (by omega)
          have hyo := hy' y hym
          obtain ⟨b, off, blk, T, fr, rfl, hb, hc⟩ := Row.get hs (by omega)
          have hcy := (hc k hkq).trans (rw_at hyi)
          have hyl := BRow.len hyo.1
          obtain ⟨bn, offn, blkn, Tn, frn, rfl, hbn, hcn'⟩ := Row.get hrn (by omega)
          have hcn2 := (hcn' k hkn).trans (text_at (nms_at hkn))
          repeat (first | refine VC.seq ?_ | refine VC.block ?_ | refine VC.skip ?_)
          refine VC.region ?_
          refine VR.pure rfl rfl (p_moveL rfl) ?_
          refine VR.pure rfl rfl (p_moveI rfl) ?_
          refine VR.pure rfl rfl (p_idx1 Try.underlying46 Try.sizeOf22 rfl rfl hkq) ?_
          refine VR.val rfl rfl (r_load (v := .slice _ _ _) Try.isAgg22 rfl (hm.fix _ _ hb) hcy) ?_
          refine VR.pure rfl rfl (p_len Try.underlying22 rfl) ?_
          refine VR.pure rfl rfl (p_gt rfl rfl) ?_
          refine VR.nil ?_
          repeat (first | refine VC.seq ?_ | refine VC.block ?_ | refine VC.skip ?_)
          refine VC.condD rfl (fun h19 => ?_) (fun h19 => ?_)
          · repeat (first | refine VC.seq ?_ | refine VC.block ?_ | refine VC.skip ?_)
            refine VC.region ?_
            refine VR.pure rfl rfl (p_assignB rfl) ?_
            refine VR.nil ?_
            repeat (first | refine VC.seq ?_ | refine VC.block ?_ | refine VC.skip ?_)
            refine VC.ret ⟨_, ResOf.r1 (v := .bool _) rfl rfl, ?_⟩
            exact ⟨rfl, (show Mem G w [] from hm.subF (List.nil_sublist _)).shrink hu⟩
          · have hrow : rowAt ys k = y.l := rowAt_of hyi
            have hnice := nice2 (xs := xs) (ys := ys) (n := i) (i := k) hn20 hshort hshort2
            have hnok := nm_ok (i := k) (by omega)
            have happ := hnice.old (b := y.l) hkn (by omega)
            repeat (first | refine VC.seq ?_ | refine VC.block ?_ | refine VC.skip ?_)
            refine VC.loud (Kept G []) [9] rfl (by kernel_rfl) (Kept.of0 hm.drew) ?_
            replace hm := hm.drew
            refine VL.pure rfl rfl rfl (p_moveP rfl) ?_
            refine VL.pure rfl rfl rfl (p_moveL rfl) ?_
            refine VL.pure rfl rfl rfl (p_moveI rfl) ?_
            refine VL.pure rfl rfl rfl (p_idx1 Try.underlying36 Try.sizeOf9 rfl rfl hkn) ?_
            refine VL.read rfl rfl rfl (fun w' hw' => r_load (v := .string _) Try.isAgg9 rfl (hw'.fix _ _ hbn) hcn2) ?_
            refine VL.pure rfl rfl rfl (p_moveL rfl) ?_
            refine VL.pure rfl rfl rfl (p_moveI rfl) ?_
            refine VL.pure rfl rfl rfl (p_idx1 Try.underlying46 Try.sizeOf22 rfl rfl hkq) ?_
            refine VL.read rfl rfl rfl (fun w' hw' => r_load (v := .slice _ _ _) Try.isAgg22 rfl (hw'.fix _ _ hb) hcy) ?_
            refine VL.call rfl rfl rfl (r_call3 Try.call12 rfl rfl rfl) (appK hm hD ha (by have := hnok.2; unfold maxLen; omega) hyo.2.2 hyo.1 happ) ?_
            rintro _ w ⟨D2, rfl, ha2, hD2, hm⟩
            refine ⟨Kept.of0 hm, ?_⟩
            refine VL.pure rfl rfl rfl (p_ne rfl rfl) ?_
            refine VL.nil ?_
            repeat (first | refine VC.seq ?_ | refine VC.block ?_ | refine VC.skip ?_)
            refine VC.condF rfl rfl ?_
            repeat (first | refine VC.seq ?_ | refine VC.block ?_ | refine VC.skip ?_)
            repeat (first | refine VC.seq ?_ | refine VC.block ?_ | refine VC.skip ?_)
            refine VC.region ?_
            refine VR.pure rfl rfl (p_moveI rfl) ?_
            refine VR.pure rfl rfl (p_add64 rfl rfl (by omega)) ?_
            refine VR.pure rfl rfl (p_assignI rfl) ?_
            refine VR.nil ?_
            refine ⟨(k + 1, D2), ⟨rfl, rfl, rfl, rfl, rfl, rfl, rfl, trivial⟩, ⟨by omega, by omega, hD2, ?_, fun j hj => ?_, hm⟩, by omega⟩
            · show D2.abs = dk i (F2 xs ys (k + 1))
              rw [ha2, ← hrow]
              exact cr_step2
            · rcases Nat.lt_or_eq_of_le (Nat.le_of_lt_succ hj) with hj | rfl
              · exact hshort2 j hj
              · rw [hrow]
                omega
        · repeat (first | refine VC.seq ?_ | refine VC.block ?_ | refine VC.skip ?_)
          refine VC.exit ?_
          have hends : k = ys.length ∨ i ≤ k := by omega
          have hnice3 : Nice i (F3 xs ys keep) := nice3 hn20 hshort hshort2 hends
          repeat (first | refine VC.seq ?_ | refine VC.block ?_ | refine VC.skip ?_)
          refine VC.region ?_
          refine VR.pure rfl rfl (p_moveP rfl) ?_
          refine VR.pure rfl rfl (p_moveI rfl) ?_
          refine VR.call rfl rfl (r_call2 Try.call15 rfl rfl) (crashK hm hD ha (cr_crash (by omega) hends keep)) ?_
          rintro v2 w ⟨D3, ha3, hD3, hm⟩
          refine VR.nil ?_
          have hfl : (dk i (F3 xs ys keep)).fs.length ≤ 1000000 := by
            show ((List.range i).map _).length ≤ _
            rw [List.length_map, List.length_range]
            omega
          repeat (first | refine VC.seq ?_ | refine VC.block ?_ | refine VC.skip ?_)
          refine VC.region ?_
          refine VR.pure rfl rfl (p_moveP rfl) ?_
          refine VR.call rfl rfl (r_call1 Try.call20 rfl) (listK hm hD3 ha3 hfl hnice3.names) ?_
          rintro _ w ⟨A24, c24, G2, rfl, hc24, hd24, hu2, hr24, hm⟩
          refine VR.pure rfl rfl (p_moveL rfl) ?_
          have hnl := nms_len i
          rw [hnl] at hr24 hc24
          refine VR.call rfl rfl (r_call2 Try.call19 rfl rfl) (same_texts_c hm (by unfold maxLen; rw [hnl]; omega) (by rw [hnl]; exact hr24) (hrn.mono hu2.heap)) ?_
          rintro _ w ⟨rfl, hm⟩
          refine VR.pure rfl rfl (p_not rfl) ?_
          refine VR.nil ?_
          repeat (first | refine VC.seq ?_ | refine VC.block ?_ | refine VC.skip ?_)
          refine VC.condF rfl (by rw [decide_eq_true rfl]; rfl) ?_
          replace hu := hu.trans hu2
          replace hr := hr.mono hu2.heap
          replace hs := hs.mono hu2.heap
          replace hrn := hrn.mono hu2.heap
          have hx2 : ∀ x ∈ xs, RwOk G2.heap x := fun x h => ⟨(hx' x h).1.mono hu2.heap, (hx' x h).2⟩
          have hy2 : ∀ x ∈ ys, RwOk G2.heap x := fun x h => ⟨(hy' x h).1.mono hu2.heap, (hy' x h).2⟩
          clear hx' hy' hr24 hD ha hu2
          repeat (first | refine VC.seq ?_ | refine VC.block ?_ | refine VC.skip ?_)
          refine VC.region ?_
          refine VR.pure rfl rfl (p_assignI rfl) ?_
          refine VR.nil ?_
          repeat (first | refine VC.seq ?_ | refine VC.block ?_ | refine VC.skip ?_)
          refine VC.region ?_
          refine VR.pure rfl rfl (p_assignI rfl) ?_
          refine VR.nil ?_
          repeat (first | refine VC.seq ?_ | refine VC.block ?_ | refine VC.skip ?_)
          refine VC.loop (σ := Nat × Env) (fun s => [(0, .slice A i c), (1, .slice B q d), (2, .int .i64 keep), (3, .int .i64 again), (9, .pointer (some ⟨g, 0, none⟩)), (10, .slice An i cn), (14, .int .i64 (sumL (dk s.1 (F3 xs ys keep)).fs)), (15, .int .i64 s.1)])
            (fun s w => s.1 ≤ i ∧ G2.under s.2 ∧ Mem s.2 w (dkB g m D3 ++ [])) (fun s => i - s.1) (0, G2) ⟨rfl, rfl, rfl, rfl, rfl, rfl, rfl, rfl, trivial⟩ ⟨by omega, Env.under_refl _, hm⟩ ?_
          clear hm
          rintro ⟨j, G3⟩ A5 w ⟨hj, hu3, hm⟩
          dsimp only at hj hu3 hm ⊢
          repeat (first | refine VC.seq ?_ | refine VC.block ?_ | refine VC.skip ?_)
          refine VC.region ?_
          refine VR.pure rfl rfl (p_moveI rfl) ?_
          refine VR.pure rfl rfl (p_moveL rfl) ?_
          refine VR.pure rfl rfl (p_len Try.underlying46 rfl) ?_
          refine VR.pure rfl rfl (p_lt rfl rfl) ?_
          refine VR.nil ?_
          repeat (first | refine VC.seq ?_ | refine VC.block ?_ | refine VC.skip ?_)
          refine VC.condD rfl (fun h28 => ?_) (fun h28 => ?_)
          · have hj' : j < i := by omega
            obtain ⟨x, hxj, hxm⟩ := get_of (xs := xs) (k := j) (by omega)
            have hxo := hx2 x hxm
            have hxb := hxo.1.mono hu3.heap
            have hxl := BRow.len hxo.1
            have hrx : rowAt xs j = x.l := rowAt_of hxj
            have hxn : x.n ≤ 2000 := by
              rw [← hxl, ← hrx]
              exact hshort j hj'
            obtain ⟨b, off, blk, T, fr, rfl, hb, hc⟩ := Row.get hr (by omega)
            have hcx := (hc j hj').trans (rw_at hxj)
            obtain ⟨bn, offn, blkn, Tn, frn, rfl, hbn, hcn'⟩ := Row.get hrn (by omega)
            have hcn2 := (hcn' j hj').trans (text_at (nms_at hj'))
            repeat (first | refine VC.seq ?_ | refine VC.block ?_ | refine VC.skip ?_)
            refine VC.region ?_
            refine VR.pure rfl rfl (p_moveL rfl) ?_
            refine VR.pure rfl rfl (p_moveI rfl) ?_
            refine VR.pure rfl rfl (p_idx1 Try.underlying46 Try.sizeOf22 rfl rfl hj') ?_
            refine VR.val rfl rfl (r_load (v := .slice _ _ _) Try.isAgg22 rfl (hm.fix _ _ (hu3.heap _ _ hb)) hcx) ?_
            refine VR.call rfl rfl (r_call1 Try.call32 rfl) (copyB_c hm hxo.2.2 hxb) ?_
            rintro _ w ⟨A4, c4, L4, rfl, ho4, hm⟩
            refine VR.pure rfl rfl (p_assignL rfl) ?_
            refine VR.nil ?_
            repeat (first | refine VC.seq ?_ | refine VC.block ?_ | refine VC.skip ?_)
            refine VC.region ?_
            refine VR.pure rfl rfl (p_moveI rfl) ?_
            refine VR.pure rfl rfl (p_moveL rfl) ?_
            refine VR.pure rfl rfl (p_len Try.underlying46 rfl) ?_
            refine VR.pure rfl rfl (p_lt rfl rfl) ?_
            refine VR.nil ?_
            repeat (first | refine VC.seq ?_ | refine VC.block ?_ | refine VC.skip ?_)
            refine VC.meet (σ := Option Addr × Nat × Nat × Blks) (fun s => [(0, .slice (some ⟨b, off, none⟩) i c), (1, .slice B q d), (2, .int .i64 keep), (3, .int .i64 again), (9, .pointer (some ⟨g, 0, none⟩)), (10, .slice (some ⟨bn, offn, none⟩) i cn), (14, .int .i64 (sumL (dk j (F3 xs ys keep)).fs)), (15, .int .i64 j), (16, .slice s.1 s.2.1 s.2.2.1)])
              (fun s w => OwnS 5 1 s.1 s.2.1 s.2.2.1 (bytes (left1 xs ys keep j)) s.2.2.2 ∧ Mem G3 w (s.2.2.2 :: (dkB g m D3 ++ []))) ?_ ?_
            · repeat (first | refine VC.seq ?_ | refine VC.block ?_ | refine VC.skip ?_)
              refine VC.condD rfl (fun h31 => ?_) (fun h31 => ?_)
              · have hjq : j < q := by omega
                obtain ⟨y, hyj, hym⟩ := get_of (xs := ys) (k := j) (by omega)
                have hyo := hy2 y hym
                have hyb := hyo.1.mono hu3.heap
                have hyl := BRow.len hyo.1
                have hry : rowAt ys j = y.l := rowAt_of hyj
                have hyn : y.n ≤ 2000 := by
                  rw [← hyl, ← hry]
                  exact hshort2 j (by omega)
                obtain ⟨by_, offy, blky, Ty, fry, rfl, hby, hcy'⟩ := Row.get hs (by omega)
                have hcy := (hcy' j hjq).trans (rw_at hyj)
                obtain ⟨t, ht, htn⟩ : ∃ t : Nat, min (max keep 0) (y.n : Int) = t ∧ t ≤ y.n := ⟨(min (max keep 0) (y.n : Int)).toNat, by omega, by omega⟩
                have hyc := hyo.2.1
                have hyt : Row G3.heap y.A (t * 1) (bytes (y.l.take t)) := by
                  have h1 := Row.take hyb (k := t) htn
                  rw [← List.map_take] at h1
                  rw [Nat.mul_one]
                  exact h1
                repeat (first | refine VC.seq ?_ | refine VC.block ?_ | refine VC.skip ?_)
                refine VC.loud (Kept G3 []) [14] rfl (by kernel_rfl) (Kept.of0 hm.drew) ?_
                replace hm := hm.drew
                refine VL.pure rfl rfl rfl (p_moveL rfl) ?_
                refine VL.pure rfl rfl rfl (p_moveL rfl) ?_
                refine VL.pure rfl rfl rfl (p_moveI rfl) ?_
                refine VL.pure rfl rfl rfl (p_idx1 Try.underlying46 Try.sizeOf22 rfl rfl hjq) ?_
                refine VL.read rfl rfl rfl (fun w' hw' => r_load (v := .slice _ _ _) Try.isAgg22 rfl (hw'.fix _ _ (hu3.heap _ _ hby)) hcy) ?_
                refine VL.pure rfl rfl rfl (p_moveI rfl) ?_
                refine VL.pure rfl rfl rfl (p_max rfl rfl) ?_
                refine VL.pure rfl rfl rfl (p_moveL rfl) ?_
                refine VL.pure rfl rfl rfl (p_moveI rfl) ?_
                refine VL.pure rfl rfl rfl (p_idx1 Try.underlying46 Try.sizeOf22 rfl rfl hjq) ?_
                refine VL.read rfl rfl rfl (fun w' hw' => r_load (v := .slice _ _ _) Try.isAgg22 rfl (hw'.fix _ _ (hu3.heap _ _ hby)) hcy) ?_
                refine VL.pure rfl rfl rfl (p_len Try.underlying22 rfl) ?_
                refine VL.pure rfl rfl rfl (p_min rfl rfl) ?_
                refine VL.pure rfl rfl rfl (p_sliceHN (h := t) Try.underlying22 Try.sizeOf5 rfl (by show Value.int .i64 (min (max keep 0) (y.n : Int)) = _; rw [ht]) (by omega)) ?_
                refine VL.append (s := 1) (bytes := 1) Try.underlying22 inf5 rfl rfl rfl rfl rfl rfl rfl rfl rfl rfl hm ho4 (hyt.mono hm.fix) (bytes_one _) rfl ⟨by unfold maxLen; omega, by omega⟩ (fun A' c' w' L' ho' hm' => Kept.of0 hm') ?_
                intro A5 c5 w L5 ho5 hm
                refine VL.pure rfl rfl rfl (p_assignL rfl) ?_
                refine VL.nil ?_
                refine ⟨(A5, x.n + t, c5, L5), ⟨rfl, rfl, rfl, rfl, rfl, rfl, rfl, rfl, rfl, trivial⟩, ?_, hm⟩
                have e : left1 xs ys keep j = x.l ++ y.l.take t := by
                  unfold left1
                  rw [if_pos (by omega), hrx, hry, hyl, ht, Int.toNat_natCast]
                rw [e]
                show OwnS _ 1 A5 (x.n + t) c5 (bytes (x.l ++ y.l.take t)) L5
                unfold bytes
                rw [List.map_append]
                exact ho5
              · repeat (first | refine VC.seq ?_ | refine VC.block ?_ | refine VC.skip ?_)
                refine ⟨(A4, x.n, c4, L4), ⟨rfl, rfl, rfl, rfl, rfl, rfl, rfl, rfl, rfl, trivial⟩, ?_, hm⟩
                have e : left1 xs ys keep j = x.l := by
                  unfold left1
                  rw [if_neg (by omega), hrx]
                rw [e]
                exact ho4
            clear hm ho4
            rintro ⟨A6, n6, c6, L6⟩ A7 w ⟨ho6, hm⟩
            dsimp only at ho6 hm ⊢
            obtain ⟨G4, hu4, hm, hL6⟩ := hm.freeze
            have hr6 := ho6.row1 hL6
            have hl6 : (left1 xs ys keep j).length = n6 := BRow.len hr6
            have hl6b : (left1 xs ys keep j).length ≤ 4000 := (hnice3.2 j hj').2
            have hs6 := sum_one j (F3 xs ys keep)
            have hs6b : sumL (dk j (F3 xs ys keep)).fs ≤ 4000 * j := Nice.sum ⟨by omega, fun a ha => hnice3.2 a (by omega)⟩
            have hs6c : 0 ≤ sumL (dk j (F3 xs ys keep)).fs := sumL_nonneg _
            repeat (first | refine VC.seq ?_ | refine VC.block ?_ | refine VC.skip ?_)
            refine VC.region ?_
            refine VR.pure rfl rfl (p_moveP rfl) ?_
            refine VR.pure rfl rfl (p_moveL rfl) ?_
            refine VR.pure rfl rfl (p_moveI rfl) ?_
            refine VR.pure rfl rfl (p_idx1 Try.underlying36 Try.sizeOf9 rfl rfl hj') ?_
            refine VR.val rfl rfl (r_load (v := .string _) Try.isAgg9 rfl (hm.fix _ _ (hu4.heap _ _ (hu3.heap _ _ hbn))) hcn2) ?_
            refine VR.call rfl rfl (r_call2 Try.call16 rfl rfl) (readK hm hD3 ha3 (hnice3.read hj')) ?_
            rintro _ w ⟨A8, n8, c8, G5, rfl, hn8, hn8b, hu5, hr8, hm⟩
            refine VR.pure rfl rfl (p_moveT rfl) ?_
            refine VR.pure rfl rfl (p_extract rfl rfl) ?_
            refine VR.pure rfl rfl (p_extract rfl rfl) ?_
            refine VR.pure rfl rfl (p_assignL rfl) ?_
            refine VR.pure rfl rfl (p_assignI rfl) ?_
            refine VR.nil ?_
            replace hr8 : BRow G5.heap A8 n8 (left1 xs ys keep j) := hr8
            replace hn8 : n8 = (left1 xs ys keep j).length := hn8
            repeat (first | refine VC.seq ?_ | refine VC.block ?_ | refine VC.skip ?_)
            refine VC.region ?_
            refine VR.pure rfl rfl (p_moveI rfl) ?_
            refine VR.pure rfl rfl (p_ne rfl rfl) ?_
            refine VR.pure rfl rfl (p_moveB rfl) ?_
            refine VR.knownF 143 rfl rfl ?_
            refine VR.pureG rfl rfl (p_moveL rfl) ?_
            refine VR.pureG rfl rfl (p_moveL rfl) ?_
            refine VR.callG rfl rfl (r_call2 Try.call17 rfl rfl) (same_bytes_c hm (by unfold maxLen; omega) hr8 (hr6.mono hu5.heap)) ?_
            rintro _ w ⟨rfl, hm⟩
            refine VR.pureG rfl rfl (p_not rfl) ?_
            refine VR.pure rfl rfl (p_pickF rfl rfl) ?_
            refine VR.nil ?_
            repeat (first | refine VC.seq ?_ | refine VC.block ?_ | refine VC.skip ?_)
            refine VC.condF rfl (by rw [decide_eq_true rfl]; rfl) ?_
            repeat (first | refine VC.seq ?_ | refine VC.block ?_ | refine VC.skip ?_)
            refine VC.region ?_
            refine VR.pure rfl rfl (p_moveI rfl) ?_
            refine VR.pure rfl rfl (p_moveL rfl) ?_
            refine VR.pure rfl rfl (p_len Try.underlying22 rfl) ?_
            refine VR.pure rfl rfl (p_add64 rfl rfl (by omega)) ?_
            refine VR.pure rfl rfl (p_assignI rfl) ?_
            refine VR.nil ?_
            repeat (first | refine VC.seq ?_ | refine VC.block ?_ | refine VC.skip ?_)
            repeat (first | refine VC.seq ?_ | refine VC.block ?_ | refine VC.skip ?_)
            refine VC.region ?_
            refine VR.pure rfl rfl (p_moveI rfl) ?_
            refine VR.pure rfl rfl (p_add64 rfl rfl (by omega)) ?_
            refine VR.pure rfl rfl (p_assignI rfl) ?_
            refine VR.nil ?_
            refine ⟨(j + 1, G5), ⟨rfl, rfl, rfl, rfl, rfl, rfl, ?_, rfl, trivial⟩, ⟨by omega, (hu3.trans hu4).trans hu5, hm⟩, by omega⟩
            show Value.int .i64 _ = Value.int .i64 (sumL (dk (j + 1) (F3 xs ys keep)).fs)
            rw [hs6]
            refine congrArg (Value.int .i64) ?_
            show _ + (n8 : Int) = _ + ((left1 xs ys keep j).length : Int)
            rw [hn8]
          · repeat (first | refine VC.seq ?_ | refine VC.block ?_ | refine VC.skip ?_)
            refine VC.exit ?_
            obtain rfl : j = i := by omega
            repeat (first | refine VC.seq ?_ | refine VC.block ?_ | refine VC.skip ?_)
            refine VC.region ?_
            refine VR.pure rfl rfl (p_moveP rfl) ?_
            refine VR.pure rfl rfl (p_moveI rfl) ?_
            refine VR.call rfl rfl (r_call2 Try.call15 rfl rfl) (crashK hm hD3 ha3 cr_again) ?_
            rintro v2 w ⟨D4, ha4, hD4, hm⟩
            refine VR.nil ?_
            repeat (first | refine VC.seq ?_ | refine VC.block ?_ | refine VC.skip ?_)
            refine VC.region ?_
            refine VR.pure rfl rfl (p_moveP rfl) ?_
            refine VR.call rfl rfl (r_call1 Try.call24 rfl) (usedK hm hD4 ha4 rfl) ?_
            rintro _ w ⟨rfl, hm⟩
            refine VR.pure rfl rfl (p_moveI rfl) ?_
            refine VR.pure rfl rfl (p_eq rfl rfl) ?_
            refine VR.pure rfl rfl (p_moveB rfl) ?_
            refine VR.knownT 160 rfl (decide_eq_true rfl) ?_
            refine VR.pureG rfl rfl (p_moveP rfl) ?_
            refine VR.callG rfl rfl (r_call1 Try.call20 rfl) (listK hm hD4 ha4 hfl hnice3.names) ?_
            rintro _ w ⟨A6, c6, G6, rfl, hc6, hd6, hu6, hr6, hm⟩
            refine VR.pureG rfl rfl (p_moveL rfl) ?_
            have hnl := nms_len j
            rw [hnl] at hr6 hc6
            refine VR.callG rfl rfl (r_call2 Try.call19 rfl rfl) (same_texts_c hm (by unfold maxLen; rw [hnl]; omega) (by rw [hnl]; exact hr6) ((hrn.mono hu3.heap).mono hu6.heap)) ?_
            rintro _ w ⟨rfl, hm⟩
            refine VR.pure rfl rfl (p_pickT rfl rfl) ?_
            refine VR.pure rfl rfl (p_assignB rfl) ?_
            refine VR.nil ?_
            repeat (first | refine VC.seq ?_ | refine VC.block ?_ | refine VC.skip ?_)
            refine VC.ret ⟨_, ResOf.r1 (v := .bool _) rfl rfl, ?_⟩
            exact ⟨congrArg Value.bool (decide_eq_true rfl), (show Mem G6 w [] from hm.subF (List.nil_sublist _)).shrink ((hu.trans hu3).trans hu6)⟩
end Go.Bd
namespace Go.Proofs.Ytjohjlhjeommiaa
open Go.Bd Go.ChangeShapes Go.WideShapes

set_option maxRecDepth 100000 in
theorem crashes_lifted (os : Os) (started : os.Started) (H : Type) (enc : TypeId × Value → H) :
    ReturnsInHanded {} Try.checked os 6 .any (Rows.diskCrashesSpec.pre6 enc Try.prog Try.f6 Rows.diskCrashesRow.domain false) (Rows.diskCrashesSpec.post enc Try.prog Try.f6 false true false false) := by
  refine law_frame (C := Try.checked) (tb := 4) (by kernel_rfl) (by kernel_rfl) started (by kernel_rfl) Try.func6 rfl rfl Try.underlying4 (by kernel_rfl) ?_
    (ChangeSpec.witness6 (enc := enc) (C := Try.checked) false ⟨#[], #[.slice none 0 0, .slice none 0 0, .int .i64 0, .int .i64 0], []⟩ 8 (by kernel_rfl) (by kernel_rfl) (by kernel_rfl) (by kernel_rfl)) ?_
  · intro ds hl
    match ds, hl with
    | [d1, d2, d3, d4], _ => rfl
  · intro W base args ds p hval hA hwt
    replace hA : DataW.TrodAll enc Try.prog W 0 (fun _ => true) true Try.f6.params.toList args.toList ds p := hA
    rw [Try.params6] at hA hval
    replace hwt : (DataW.weightsEach Try.prog [46, 46, 3, 3] ds).all (· ≤ reachBytes) = true := hwt
    obtain ⟨v0, vs0, d0, ds0, p0, q0, hargs, rfl, rfl, h0, r0⟩ := trodAll_cons hA
    obtain ⟨v1, vs1, d1, ds1, p1, q1, rfl, rfl, rfl, h1, r1⟩ := trodAll_cons r0
    obtain ⟨v2, vs2, d2, ds2, p2, q2, rfl, rfl, rfl, h2, r2⟩ := trodAll_cons r1
    obtain ⟨v3, vs3, d3, ds3, p3, q3, rfl, rfl, rfl, h3, r3⟩ := trodAll_cons r2
    obtain ⟨rfl, rfl, rfl⟩ := trodAll_nil r3
    obtain rfl : args = #[v0, v1, v2, v3] := by cases args; simp_all
    obtain ⟨a2, rfl, _, _, w2⟩ := open_int Try.underlying3 (hval 2 3 v2 rfl rfl) h2
    obtain ⟨a3, rfl, _, _, w3⟩ := open_int Try.underlying3 (hval 3 3 v3 rfl rfl) h3
    obtain ⟨_, _, _, rfl⟩ := okWide_slice Try.underlying46 (hval 0 46 v0 rfl rfl)
    obtain ⟨_, _, _, rfl⟩ := okWide_slice Try.underlying46 (hval 1 46 v1 rfl rfl)
    obtain ⟨fuel, hf⟩ := h0
    obtain ⟨fuel1, hf1⟩ := h1
    obtain ⟨A, n, c, xs, e1, _, _, _, hr, hx, hxl⟩ := open_rows (cells := Rw.cells) (Q := fun x => RwOk (Env.of W).heap x) Try.underlying46 cel22 (by decide) Rw.len open_rw hf (LightAll.cons hwt).1
    obtain ⟨B, q, d, ys, e2, _, _, _, hs, hy, hyl⟩ := open_rows (cells := Rw.cells) (Q := fun x => RwOk (Env.of W).heap x) Try.underlying46 cel22 (by decide) Rw.len open_rw hf1 (LightAll.cons (LightAll.cons hwt).2).1
    simp [Value.cells] at e1 e2
    obtain ⟨rfl, rfl, rfl⟩ := e1
    obtain ⟨rfl, rfl, rfl⟩ := e2
    rw [Nat.mul_one] at hr hs
    exact disk_crashes_c (Mem.of W) hr hx hxl hs hy hyl

theorem crashes : Rows.DiskCrashesSaid :=
  OpenClaim.holds_of_wide 6 Try.f6 rfl rfl rfl rfl rfl rfl rfl ⟨rfl, rfl, rfl, rfl, rfl⟩ rfl rfl rfl rfl rfl (by kernel_rfl) Try.func6 (by kernel_rfl)
    (of_decide_eq_true (by kernel_rfl)) (by unfold Func.isWrapper; rw [if_neg (of_decide_eq_false (by kernel_rfl))]; exact ⟨rfl, rfl⟩)
    (fun os started H enc _ => crashes_lifted os started H enc)
end Go.Proofs.Ytjohjlhjeommiaa
