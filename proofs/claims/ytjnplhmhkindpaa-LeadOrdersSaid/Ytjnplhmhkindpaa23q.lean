/- Contracts of layer 23: quorums of all configs; more servers are a quorum too. Conditions: as each states. -/
import Derived.Test.Ytjnplhmhkindpaa23t
namespace Go.Bd
open Go.Proofs
set_option linter.unusedVariables false
set_option maxRecDepth 20000

def allA (es : List (Int × List Mb)) (ids : List Int) : Bool := decide (0 < es.length) && es.all fun e => quorumE e.1 e.2 ids
section
variable {F : Env} {w : World} {Ls : List Blks}
set_option maxHeartbeats 1000000 in
theorem all2_c {B A : Option Addr} {m d n c : Nat} {es : List En} {ids : List Int} (hm : Mem F w Ls) (hmm : m ≤ maxLen) (hes : ERow F.heap B m es) (hn : n ≤ maxLen) (hr : Row F.heap A n (ids.map (Value.int .i64))) :
    Calls Try.prog 13 #[.slice B m d, .slice A n c] w (Ret fun v w' => v = .bool (allA (es.map En.abs) ids) ∧ Mem F w' Ls) := by
  have hl := hes.len
  unfold maxLen at hmm
  have hall : allA (es.map En.abs) ids = (decide (0 < es.length) && es.all fun e => quorumE e.ver e.ms ids) := by
    unfold allA
    rw [List.length_map, List.all_map]
    rfl
  rw [hall]
  refine Calls.of_vc Try.func13 rfl Try.ntmps13 rfl ?_
  repeat (first | refine VC.seq ?_ | refine VC.block ?_ | refine VC.skip ?_)
  refine VC.region ?_
  refine VR.pure rfl rfl (p_assignB rfl) ?_
  refine VR.nil ?_
  repeat (first | refine VC.seq ?_ | refine VC.block ?_ | refine VC.skip ?_)
  refine VC.region ?_
  refine VR.pure rfl rfl (p_moveL rfl) ?_
  refine VR.pure rfl rfl (p_len Try.underlying23 rfl) ?_
  refine VR.pure rfl rfl (p_moveI rfl) ?_
  refine VR.nil ?_
  repeat (first | refine VC.seq ?_ | refine VC.block ?_ | refine VC.skip ?_)
  refine VC.loop (σ := Nat) (fun k => [(0, .slice B m d), (1, .slice A n c), (7, .slice B m d), (8, .int .i64 m), (9, .int .i64 k)]) (fun k w => Mem F w Ls ∧ k ≤ m ∧ ∀ e ∈ es.take k, quorumE e.ver e.ms ids = true) (fun k => m - k) 0 ⟨rfl, rfl, rfl, rfl, rfl, trivial⟩ ⟨hm, by omega, by simp⟩ ?_
  clear hm
  rintro k A' w ⟨hm, hk, hq⟩
  repeat (first | refine VC.seq ?_ | refine VC.block ?_ | refine VC.skip ?_)
  refine VC.region ?_
  refine VR.pure rfl rfl (p_lt rfl rfl) ?_
  refine VR.nil ?_
  repeat (first | refine VC.seq ?_ | refine VC.block ?_ | refine VC.skip ?_)
  refine VC.condD rfl (fun h => ?_) (fun h => ?_)
  · have hk' : k < m := by omega
    obtain ⟨e, he, hem⟩ := get_of (xs := es) (k := k) (by omega)
    obtain ⟨b, off, blk, T, fr, rfl, hb, hcc⟩ := hes.row.elem En.len (by decide) (by omega)
    have hok := hes.each e hem
    repeat (first | refine VC.seq ?_ | refine VC.block ?_ | refine VC.skip ?_)
    refine VC.region ?_
    refine VR.pure rfl rfl (p_idxN Try.underlying23 Try.sizeOf54 rfl rfl hk') ?_
    refine VR.val rfl rfl (r_loadAgg (vs := [.int _ _, .slice _ _ _]) Try.isAgg54 Try.sizeOf54 rfl (hm.fix _ _ hb) rfl (hcc k e he)) ?_
    refine VR.new hm rfl rfl (n_allocG Try.zeroValue54) ?_
    intro b6 w hm
    refine VR.store (cs' := #[.int .i64 e.ver, .slice e.A e.n e.c]) (v := .agg _) Try.sizeOf54 rfl rfl rfl rfl rfl hm 0 0 rfl (Nat.ble_eq.mp rfl) rfl ?_
    intro w hm
    refine VR.nil ?_
    repeat (first | refine VC.seq ?_ | refine VC.block ?_ | refine VC.skip ?_)
    refine VC.region ?_
    refine VR.val rfl rfl (r_loadAgg (vs := [.int _ _, .slice _ _ _]) Try.isAgg54 Try.sizeOf54 rfl (hm.at_ 0 0 rfl) rfl (agg_at rfl)) ?_
    refine VR.pure rfl rfl (p_moveL rfl) ?_
    refine VR.call rfl rfl (r_call2 Try.call31 rfl rfl) (quorum_c (e := e) hm (Nat.le_trans hok.2.1 hok.2.2) hok.1 hn hr) ?_
    rintro _ w ⟨rfl, hm⟩
    refine VR.pure rfl rfl (p_not rfl) ?_
    refine VR.nil ?_
    by_cases hqe : quorumE e.ver e.ms ids = true
    · repeat (first | refine VC.seq ?_ | refine VC.block ?_ | refine VC.skip ?_)
      refine VC.condF rfl (by rw [hqe]; rfl) ?_
      repeat (first | refine VC.seq ?_ | refine VC.block ?_ | refine VC.skip ?_)
      refine VC.region ?_
      refine VR.pure rfl rfl (p_add64 rfl rfl (by omega)) ?_
      refine VR.pure rfl rfl (p_moveI rfl) ?_
      refine VR.nil ?_
      refine ⟨k + 1, ⟨rfl, rfl, rfl, rfl, rfl, trivial⟩, ⟨hm.pop, by omega, fun x hx => ?_⟩, by omega⟩
      rw [List.take_add_one, he] at hx
      rcases List.mem_append.1 hx with hx | hx
      · exact hq x hx
      · have : x = e := by simpa using hx
        rw [this]
        exact hqe
    · repeat (first | refine VC.seq ?_ | refine VC.block ?_ | refine VC.skip ?_)
      refine VC.condT rfl (by rw [Bool.not_eq_true _ |>.mp hqe]; rfl) ?_
      repeat (first | refine VC.seq ?_ | refine VC.block ?_ | refine VC.skip ?_)
      refine VC.region ?_
      refine VR.pure rfl rfl (p_assignB rfl) ?_
      refine VR.nil ?_
      repeat (first | refine VC.seq ?_ | refine VC.block ?_ | refine VC.skip ?_)
      refine VC.ret ⟨_, ResOf.r1 (v := .bool _) rfl rfl, ?_⟩
      refine ⟨congrArg Value.bool ?_, hm.pop⟩
      have h0 : (es.all fun e => quorumE e.ver e.ms ids) = false := by
        rw [List.all_eq_false]
        exact ⟨e, hem, hqe⟩
      rw [h0, Bool.and_false]
  · repeat (first | refine VC.seq ?_ | refine VC.block ?_ | refine VC.skip ?_)
    refine VC.exit ?_
    rw [List.take_of_length_le (by omega)] at hq
    repeat (first | refine VC.seq ?_ | refine VC.block ?_ | refine VC.skip ?_)
    refine VC.region ?_
    refine VR.pure rfl rfl (p_moveL rfl) ?_
    refine VR.pure rfl rfl (p_len Try.underlying23 rfl) ?_
    refine VR.pure rfl rfl (p_gt rfl rfl) ?_
    refine VR.pure rfl rfl (p_assignB rfl) ?_
    refine VR.nil ?_
    repeat (first | refine VC.seq ?_ | refine VC.block ?_ | refine VC.skip ?_)
    refine VC.ret ⟨_, ResOf.r1 (v := .bool _) rfl rfl, ?_⟩
    refine ⟨congrArg Value.bool ?_, hm⟩
    rw [List.all_eq_true.2 hq, Bool.and_true]
    exact decide_eq_decide.2 (by rw [hl]; omega)

end
theorem wsum_congr {p q : Mb → Bool} (h : ∀ m, p m = q m) (g : Int) (ms : List Mb) : wsum p g ms = wsum q g ms := by
  have : p = q := funext h
  rw [this]
theorem quorum_same {ver : Int} {ms : List Mb} {xs ys : List Int} (h : ∀ z, z ∈ xs ↔ z ∈ ys) : quorumE ver ms xs = quorumE ver ms ys := by
  unfold quorumE
  have : (fun m : Mb => decide (m.id ∈ xs)) = fun m => decide (m.id ∈ ys) := funext fun m => decide_eq_decide.2 (h m.id)
  rw [this]
theorem all_same {es : List (Int × List Mb)} {xs ys : List Int} (h : ∀ z, z ∈ xs ↔ z ∈ ys) : allA es xs = allA es ys := by
  unfold allA
  have : (fun e : Int × List Mb => quorumE e.1 e.2 xs) = fun e => quorumE e.1 e.2 ys := funext fun e => quorum_same h
  rw [this]
abbrev intsV (l : List Int) : List Value := l.map (Value.int .i64)
theorem intsV_one (l : List Int) : ∀ u ∈ intsV l, u.oneCell' = true := by
  intro u hu
  obtain ⟨x, _, rfl⟩ := List.mem_map.1 hu
  rfl
theorem wsum_mono {p q : Mb → Bool} (h : ∀ m, p m = true → q m = true) (g : Int) : ∀ (ms : List Mb), (∀ m ∈ ms, MbFit m) → wsum p g ms ≤ wsum q g ms
  | [], _ => Int.le_refl _
  | m :: r, hf => by
    have h1 := wsum_mono h g r fun x hx => hf x (.tail _ hx)
    have h2 := (hf m (.head _)).1
    show (if m.group = g ∧ p m = true then m.weight else 0) + wsum p g r ≤ (if m.group = g ∧ q m = true then m.weight else 0) + wsum q g r
    by_cases e : m.group = g ∧ p m = true
    · rw [if_pos e, if_pos ⟨e.1, h m e.2⟩]
      omega
    · rw [if_neg e]
      split <;> omega
theorem cnt_mono {P Q : Nat → Bool} (h : ∀ g, P g = true → Q g = true) : ∀ k, cnt P k ≤ cnt Q k
  | 0 => Int.le_refl _
  | k + 1 => by
    have := cnt_mono h k
    show cnt P k + (if P k = true then 1 else 0) ≤ cnt Q k + (if Q k = true then 1 else 0)
    by_cases e : P k = true
    · rw [if_pos e, if_pos (h k e)]
      omega
    · rw [if_neg e]
      split <;> omega
theorem quorum_more {ver : Int} {ms : List Mb} {xs ys : List Int} (hs : ∀ z ∈ xs, z ∈ ys) (h : quorumE ver ms xs = true) : quorumE ver ms ys = true := by
  unfold quorumE at h ⊢
  rw [Bool.and_eq_true, decide_eq_true_eq, decide_eq_true_eq] at h
  obtain ⟨hc, hq⟩ := h
  obtain ⟨_, hfit⟩ := check_fit hc
  rw [Bool.and_eq_true, decide_eq_true_eq, decide_eq_true_eq]
  refine ⟨hc, ?_⟩
  have : cnt (fun g => decide (wsum (fun _ => true) g ms < 2 * wsum (fun m => decide (m.id ∈ xs)) g ms)) 7 ≤ cnt (fun g => decide (wsum (fun _ => true) g ms < 2 * wsum (fun m => decide (m.id ∈ ys)) g ms)) 7 := by
    refine cnt_mono (fun g hg => ?_) 7
    rw [decide_eq_true_eq] at hg ⊢
    have := wsum_mono (p := fun m => decide (m.id ∈ xs)) (q := fun m => decide (m.id ∈ ys)) (fun m hm => by
      rw [decide_eq_true_eq] at hm ⊢
      exact hs _ hm) g ms hfit
    omega
  omega
theorem all_more {es : List (Int × List Mb)} {xs ys : List Int} (hs : ∀ z ∈ xs, z ∈ ys) (h : allA es xs = true) : allA es ys = true := by
  unfold allA at h ⊢
  rw [Bool.and_eq_true] at h ⊢
  refine ⟨h.1, List.all_eq_true.2 fun e he => quorum_more hs (List.all_eq_true.1 h.2 e he)⟩

def idsT (td : Nat → Td) (p : Td → Bool) : List Int := ((List.range 8).filter fun k => decide (1 ≤ k) && p (td k)).map Int.ofNat
def qT (es : List (Int × List Mb)) (td : Nat → Td) (p : Td → Bool) : Bool := allA es (idsT td p)
theorem idsT_mem (td : Nat → Td) (p : Td → Bool) (z : Int) : z ∈ idsT td p ↔ ∃ k : Nat, 1 ≤ k ∧ k < 8 ∧ p (td k) = true ∧ z = k := by
  unfold idsT
  constructor
  · intro h
    obtain ⟨k, hk, rfl⟩ := List.mem_map.1 h
    obtain ⟨h1, h2⟩ := List.mem_filter.1 hk
    rw [Bool.and_eq_true, decide_eq_true_eq] at h2
    exact ⟨k, h2.1, List.mem_range.1 h1, h2.2, rfl⟩
  · rintro ⟨k, h1, h2, h3, rfl⟩
    refine List.mem_map.2 ⟨k, List.mem_filter.2 ⟨List.mem_range.2 h2, ?_⟩, rfl⟩
    rw [Bool.and_eq_true, decide_eq_true_eq]
    exact ⟨h1, h3⟩
section
variable {F : Env} {w : World} {Ls : List Blks}
set_option maxHeartbeats 4000000 in
theorem qInfo_c {g : Nat} {B : Option Addr} {m d : Nat} {es : List En} {id cur last : Int} {A : Option Addr} {n c : Nat} {stage ep : Int} {td : Nat → Td} {prop com : Int} (hm : Mem F w Ls) (hg : F.heap g = some (tOb id cur last A n c stage ep td prop com)) (hmm : m ≤ maxLen) (hes : ERow F.heap B m es) :
    Calls Try.prog 37 #[.pointer (some ⟨g, 0, none⟩), .slice B m d, .func (.func 38) #[] #[]] w (Ret fun v w' => v = .bool (qT (es.map En.abs) td (fun d => d.info)) ∧ Mem F w' Ls) := by
  refine Calls.of_vc Try.func37 rfl Try.ntmps37 rfl ?_
  repeat (first | refine VC.seq ?_ | refine VC.block ?_ | refine VC.skip ?_)
  refine VC.region ?_
  refine VR.pure rfl rfl (p_assignB rfl) ?_
  refine VR.nil ?_
  repeat (first | refine VC.seq ?_ | refine VC.block ?_ | refine VC.skip ?_)
  refine VC.region ?_
  refine VR.pure rfl rfl (p_assignL rfl) ?_
  refine VR.nil ?_
  repeat (first | refine VC.seq ?_ | refine VC.block ?_ | refine VC.skip ?_)
  refine VC.region ?_
  refine VR.pure rfl rfl (p_moveP rfl) ?_
  refine VR.pure rfl rfl (p_nilCheck rfl) ?_
  refine VR.pure rfl rfl (p_field (fo := 6) Try.underlying47 rfl Try.sizeOf45 rfl rfl rfl) ?_
  refine VR.val rfl rfl (r_loadAgg (vs := (told td)) Try.isAgg45 Try.sizeOf45 rfl (hm.fix _ _ hg) rfl (agg_at rfl)) ?_
  refine VR.pure rfl rfl (p_moveI rfl) ?_
  refine VR.nil ?_
  repeat (first | refine VC.seq ?_ | refine VC.block ?_ | refine VC.skip ?_)
  refine VC.loop (σ := Nat × Option Addr × Nat × List Int × Blks) (fun s => [(1, .slice B m d), (2, .func (.func 38) #[] #[]), (7, .slice s.2.1 s.2.2.2.1.length s.2.2.1), (13, .agg (told td).toArray), (14, .int .i64 s.1)])
    (fun s w => Mem F w (s.2.2.2.2 :: Ls) ∧ OwnS 3 1 s.2.1 s.2.2.2.1.length s.2.2.1 (intsV s.2.2.2.1) s.2.2.2.2 ∧ s.1 ≤ 8 ∧ s.2.2.2.1.length ≤ s.1 ∧ ∀ z, z ∈ s.2.2.2.1 ↔ ∃ k : Nat, 1 ≤ k ∧ k < s.1 ∧ (fun d : Td => d.info) (td k) = true ∧ z = k)
    (fun s => 8 - s.1) (0, none, 0, [], []) ⟨rfl, rfl, rfl, rfl, rfl, trivial⟩ ⟨hm.nil_, OwnS.nil _ _, by show 0 ≤ 8; omega, Nat.le_refl _, fun z => ⟨fun h => by simp at h, fun ⟨k, h1, h2, _⟩ => by dsimp only at h2; omega⟩⟩ ?_
  clear hm
  rintro ⟨j, A4, c4, ns, L⟩ AA w ⟨hm, ho, hj8, hnl, hmem⟩
  dsimp only at hm ho hj8 hnl hmem ⊢
  repeat (first | refine VC.seq ?_ | refine VC.block ?_ | refine VC.skip ?_)
  refine VC.region ?_
  refine VR.pure rfl rfl (p_lt rfl rfl) ?_
  refine VR.nil ?_
  repeat (first | refine VC.seq ?_ | refine VC.block ?_ | refine VC.skip ?_)
  refine VC.condD rfl (fun hj => ?_) (fun hj => ?_)
  · have hj7 : j < 8 := by omega
    repeat (first | refine VC.seq ?_ | refine VC.block ?_ | refine VC.skip ?_)
    repeat (first | refine VC.seq ?_ | refine VC.block ?_ | refine VC.skip ?_)
    refine VC.region ?_
    refine VR.pure rfl rfl (p_moveI rfl) ?_
    refine VR.pure rfl rfl (p_indexA Try.underlying45 Try.isAgg44 Try.sizeOf44 rfl rfl hj7 (told_at j hj7)) ?_
    refine VR.new hm rfl rfl (n_allocG Try.zeroValue44) ?_
    intro b9 w hm
    refine VR.pure rfl rfl (p_assignI rfl) ?_
    refine VR.store (cs' := (td j).cells.toArray) (v := .agg _) Try.sizeOf44 rfl rfl rfl rfl rfl hm 0 0 rfl (Nat.ble_eq.mp rfl) rfl ?_
    intro w hm
    refine VR.nil ?_
    repeat (first | refine VC.seq ?_ | refine VC.block ?_ | refine VC.skip ?_)
    refine VC.region ?_
    refine VR.pure rfl rfl (p_moveI rfl) ?_
    refine VR.pure rfl rfl (p_gt rfl rfl) ?_
    refine VR.pure rfl rfl (p_moveB rfl) ?_
    refine VR.splitD 20 rfl (fun q2 => ?_) (fun q2 => ?_)
    refine VR.pureG rfl rfl (p_moveF rfl) ?_
    refine VR.valG rfl rfl (r_loadAgg (vs := (td j).cells) Try.isAgg44 Try.sizeOf44 rfl (hm.at_ 0 0 rfl) rfl (agg_at rfl)) ?_
    refine VR.callG rfl rfl (r_callV Try.call38 rfl rfl) (cInfo_c hm) ?_
    rintro _ w ⟨rfl, hm⟩
    refine VR.pure rfl rfl (p_pickT rfl rfl) ?_
    refine VR.nil ?_
    rotate_left 1
    refine VR.pass rfl rfl ?_
    refine VR.pass rfl rfl ?_
    refine VR.pass rfl rfl ?_
    refine VR.pure rfl rfl (p_pickF rfl rfl) ?_
    refine VR.nil ?_
    rotate_left 1
    · by_cases hq : (fun d : Td => d.info) (td j) = true
      · repeat (first | refine VC.seq ?_ | refine VC.block ?_ | refine VC.skip ?_)
        refine VC.condT rfl hq ?_
        repeat (first | refine VC.seq ?_ | refine VC.block ?_ | refine VC.skip ?_)
        refine VC.region ?_
        refine VR.pure rfl rfl (p_moveL rfl) ?_
        refine VR.pure rfl rfl (p_moveI rfl) ?_
        refine VR.new hm rfl rfl (n_buildSlice1 (vs := [.int _ _]) Try.underlying26 inf3 rfl rfl rfl rfl rfl rfl rfl) ?_
        intro b40 w hm
        replace hm := hm.pull 2 rfl
        refine VR.append (s := 1) (bytes := 8) Try.underlying26 inf3 rfl rfl rfl rfl rfl rfl rfl rfl rfl hm ho (Row.lit (cs := [.int .i64 j]) (hm.at_ 1 0 rfl)) (intsV_one [(j : Int)]) rfl ⟨by unfold maxLen; omega, by omega⟩ ?_
        intro A3 c3 w L3 ho3 hm
        refine VR.pure rfl rfl (p_assignL rfl) ?_
        refine VR.nil ?_
        repeat (first | refine VC.seq ?_ | refine VC.block ?_ | refine VC.skip ?_)
        refine VC.region ?_
        refine VR.pure rfl rfl (p_add64 rfl rfl (by omega)) ?_
        refine VR.pure rfl rfl (p_moveI rfl) ?_
        refine VR.nil ?_
        have ho4 : OwnS 3 1 A3 (ns ++ [(j : Int)]).length c3 (intsV (ns ++ [(j : Int)])) L3 := by
          unfold intsV
          rw [List.map_append, List.length_append]
          exact ho3
        refine ⟨(j + 1, A3, c3, ns ++ [(j : Int)], L3), ⟨rfl, rfl, by rw [List.length_append]; rfl, rfl, rfl, trivial⟩, ⟨hm.pop2.pop2, ho4, by show j + 1 ≤ 8; omega, by rw [List.length_append]; show ns.length + 1 ≤ j + 1; omega, fun z => ?_⟩, by show 8 - (j + 1) < 8 - j; omega⟩
        rw [List.mem_append, hmem, List.mem_singleton]
        constructor
        · rintro (⟨k, h1, h2, h3⟩ | h)
          · exact ⟨k, h1, by show k < j + 1; omega, h3⟩
          · exact ⟨j, by omega, by show j < j + 1; omega, hq, h⟩
        · rintro ⟨k, h1, h2, h3, h4⟩
          by_cases e : k = j
          · subst e
            exact .inr h4
          · exact .inl ⟨k, h1, by dsimp only at h2; omega, h3, h4⟩
      · repeat (first | refine VC.seq ?_ | refine VC.block ?_ | refine VC.skip ?_)
        refine VC.condF rfl (Bool.not_eq_true _ |>.mp hq) ?_
        repeat (first | refine VC.seq ?_ | refine VC.block ?_ | refine VC.skip ?_)
        repeat (first | refine VC.seq ?_ | refine VC.block ?_ | refine VC.skip ?_)
        refine VC.region ?_
        refine VR.pure rfl rfl (p_add64 rfl rfl (by omega)) ?_
        refine VR.pure rfl rfl (p_moveI rfl) ?_
        refine VR.nil ?_
        refine ⟨(j + 1, A4, c4, ns, L), ⟨rfl, rfl, rfl, rfl, rfl, trivial⟩, ⟨hm.pop, ho, by show j + 1 ≤ 8; omega, by show ns.length ≤ j + 1; omega, fun z => ?_⟩, by show 8 - (j + 1) < 8 - j; omega⟩
        rw [hmem]
        constructor
        · rintro ⟨k, h1, h2, h3⟩
          exact ⟨k, h1, by show k < j + 1; omega, h3⟩
        · rintro ⟨k, h1, h2, h3, h4⟩
          by_cases e : k = j
          · subst e
            exact absurd h3 hq
          · exact ⟨k, h1, by dsimp only at h2; omega, h3, h4⟩
    · repeat (first | refine VC.seq ?_ | refine VC.block ?_ | refine VC.skip ?_)
      refine VC.condF rfl rfl ?_
      repeat (first | refine VC.seq ?_ | refine VC.block ?_ | refine VC.skip ?_)
      have hj0 : ¬ 1 ≤ j := by omega
      repeat (first | refine VC.seq ?_ | refine VC.block ?_ | refine VC.skip ?_)
      refine VC.region ?_
      refine VR.pure rfl rfl (p_add64 rfl rfl (by omega)) ?_
      refine VR.pure rfl rfl (p_moveI rfl) ?_
      refine VR.nil ?_
      refine ⟨(j + 1, A4, c4, ns, L), ⟨rfl, rfl, rfl, rfl, rfl, trivial⟩, ⟨hm.pop, ho, by show j + 1 ≤ 8; omega, by show ns.length ≤ j + 1; omega, fun z => ?_⟩, by show 8 - (j + 1) < 8 - j; omega⟩
      rw [hmem]
      constructor
      · rintro ⟨k, h1, h2, h3⟩
        exact ⟨k, h1, by show k < j + 1; omega, h3⟩
      · rintro ⟨k, h1, h2, h3, h4⟩
        by_cases e : k = j
        · subst e
          exact absurd h1 hj0
        · exact ⟨k, h1, by dsimp only at h2; omega, h3, h4⟩
  · repeat (first | refine VC.seq ?_ | refine VC.block ?_ | refine VC.skip ?_)
    refine VC.exit ?_
    obtain rfl : j = 8 := by omega
    repeat (first | refine VC.seq ?_ | refine VC.block ?_ | refine VC.skip ?_)
    refine VC.region ?_
    refine VR.pure rfl rfl (p_moveL rfl) ?_
    refine VR.pure rfl rfl (p_moveL rfl) ?_
    refine VR.call rfl rfl (r_call2 Try.call13 rfl rfl) (all2_c (es := es) (ids := ns) hm.all hmm (hes.mono hm.le) (by unfold maxLen; omega) (ho.row1 (hm.plus_i 0 rfl))) ?_
    rintro _ w ⟨rfl, hm'⟩
    replace hm := hm.back0 hm'
    refine VR.pure rfl rfl (p_assignB rfl) ?_
    refine VR.nil ?_
    repeat (first | refine VC.seq ?_ | refine VC.block ?_ | refine VC.skip ?_)
    refine VC.ret ⟨_, ResOf.r1 (v := .bool _) rfl rfl, ?_⟩
    refine ⟨congrArg Value.bool (all_same fun z => ?_), hm.pop⟩
    rw [hmem, idsT_mem]
set_option maxHeartbeats 4000000 in
theorem qPr_c {g : Nat} {B : Option Addr} {m d : Nat} {es : List En} {id cur last : Int} {A : Option Addr} {n c : Nat} {stage ep : Int} {td : Nat → Td} {prop com : Int} (hm : Mem F w Ls) (hg : F.heap g = some (tOb id cur last A n c stage ep td prop com)) (hmm : m ≤ maxLen) (hes : ERow F.heap B m es) :
    Calls Try.prog 37 #[.pointer (some ⟨g, 0, none⟩), .slice B m d, .func (.func 39) #[] #[]] w (Ret fun v w' => v = .bool (qT (es.map En.abs) td (fun d => d.pr)) ∧ Mem F w' Ls) := by
  refine Calls.of_vc Try.func37 rfl Try.ntmps37 rfl ?_
  repeat (first | refine VC.seq ?_ | refine VC.block ?_ | refine VC.skip ?_)
  refine VC.region ?_
  refine VR.pure rfl rfl (p_assignB rfl) ?_
  refine VR.nil ?_
  repeat (first | refine VC.seq ?_ | refine VC.block ?_ | refine VC.skip ?_)
  refine VC.region ?_
  refine VR.pure rfl rfl (p_assignL rfl) ?_
  refine VR.nil ?_
  repeat (first | refine VC.seq ?_ | refine VC.block ?_ | refine VC.skip ?_)
  refine VC.region ?_
  refine VR.pure rfl rfl (p_moveP rfl) ?_
  refine VR.pure rfl rfl (p_nilCheck rfl) ?_
  refine VR.pure rfl rfl (p_field (fo := 6) Try.underlying47 rfl Try.sizeOf45 rfl rfl rfl) ?_
  refine VR.val rfl rfl (r_loadAgg (vs := (told td)) Try.isAgg45 Try.sizeOf45 rfl (hm.fix _ _ hg) rfl (agg_at rfl)) ?_
  refine VR.pure rfl rfl (p_moveI rfl) ?_
  refine VR.nil ?_
  repeat (first | refine VC.seq ?_ | refine VC.block ?_ | refine VC.skip ?_)
  refine VC.loop (σ := Nat × Option Addr × Nat × List Int × Blks) (fun s => [(1, .slice B m d), (2, .func (.func 39) #[] #[]), (7, .slice s.2.1 s.2.2.2.1.length s.2.2.1), (13, .agg (told td).toArray), (14, .int .i64 s.1)])
    (fun s w => Mem F w (s.2.2.2.2 :: Ls) ∧ OwnS 3 1 s.2.1 s.2.2.2.1.length s.2.2.1 (intsV s.2.2.2.1) s.2.2.2.2 ∧ s.1 ≤ 8 ∧ s.2.2.2.1.length ≤ s.1 ∧ ∀ z, z ∈ s.2.2.2.1 ↔ ∃ k : Nat, 1 ≤ k ∧ k < s.1 ∧ (fun d : Td => d.pr) (td k) = true ∧ z = k)
    (fun s => 8 - s.1) (0, none, 0, [], []) ⟨rfl, rfl, rfl, rfl, rfl, trivial⟩ ⟨hm.nil_, OwnS.nil _ _, by show 0 ≤ 8; omega, Nat.le_refl _, fun z => ⟨fun h => by simp at h, fun ⟨k, h1, h2, _⟩ => by dsimp only at h2; omega⟩⟩ ?_
  clear hm
  rintro ⟨j, A4, c4, ns, L⟩ AA w ⟨hm, ho, hj8, hnl, hmem⟩
  dsimp only at hm ho hj8 hnl hmem ⊢
  repeat (first | refine VC.seq ?_ | refine VC.block ?_ | refine VC.skip ?_)
  refine VC.region ?_
  refine VR.pure rfl rfl (p_lt rfl rfl) ?_
  refine VR.nil ?_
  repeat (first | refine VC.seq ?_ | refine VC.block ?_ | refine VC.skip ?_)
  refine VC.condD rfl (fun hj => ?_) (fun hj => ?_)
  · have hj7 : j < 8 := by omega
    repeat (first | refine VC.seq ?_ | refine VC.block ?_ | refine VC.skip ?_)
    repeat (first | refine VC.seq ?_ | refine VC.block ?_ | refine VC.skip ?_)
    refine VC.region ?_
    refine VR.pure rfl rfl (p_moveI rfl) ?_
    refine VR.pure rfl rfl (p_indexA Try.underlying45 Try.isAgg44 Try.sizeOf44 rfl rfl hj7 (told_at j hj7)) ?_
    refine VR.new hm rfl rfl (n_allocG Try.zeroValue44) ?_
    intro b9 w hm
    refine VR.pure rfl rfl (p_assignI rfl) ?_
    refine VR.store (cs' := (td j).cells.toArray) (v := .agg _) Try.sizeOf44 rfl rfl rfl rfl rfl hm 0 0 rfl (Nat.ble_eq.mp rfl) rfl ?_
    intro w hm
    refine VR.nil ?_
    repeat (first | refine VC.seq ?_ | refine VC.block ?_ | refine VC.skip ?_)
    refine VC.region ?_
    refine VR.pure rfl rfl (p_moveI rfl) ?_
    refine VR.pure rfl rfl (p_gt rfl rfl) ?_
    refine VR.pure rfl rfl (p_moveB rfl) ?_
    refine VR.splitD 20 rfl (fun q2 => ?_) (fun q2 => ?_)
    refine VR.pureG rfl rfl (p_moveF rfl) ?_
    refine VR.valG rfl rfl (r_loadAgg (vs := (td j).cells) Try.isAgg44 Try.sizeOf44 rfl (hm.at_ 0 0 rfl) rfl (agg_at rfl)) ?_
    refine VR.callG rfl rfl (r_callV Try.call39 rfl rfl) (cPr_c hm) ?_
    rintro _ w ⟨rfl, hm⟩
    refine VR.pure rfl rfl (p_pickT rfl rfl) ?_
    refine VR.nil ?_
    rotate_left 1
    refine VR.pass rfl rfl ?_
    refine VR.pass rfl rfl ?_
    refine VR.pass rfl rfl ?_
    refine VR.pure rfl rfl (p_pickF rfl rfl) ?_
    refine VR.nil ?_
    rotate_left 1
    · by_cases hq : (fun d : Td => d.pr) (td j) = true
      · repeat (first | refine VC.seq ?_ | refine VC.block ?_ | refine VC.skip ?_)
        refine VC.condT rfl hq ?_
        repeat (first | refine VC.seq ?_ | refine VC.block ?_ | refine VC.skip ?_)
        refine VC.region ?_
        refine VR.pure rfl rfl (p_moveL rfl) ?_
        refine VR.pure rfl rfl (p_moveI rfl) ?_
        refine VR.new hm rfl rfl (n_buildSlice1 (vs := [.int _ _]) Try.underlying26 inf3 rfl rfl rfl rfl rfl rfl rfl) ?_
        intro b40 w hm
        replace hm := hm.pull 2 rfl
        refine VR.append (s := 1) (bytes := 8) Try.underlying26 inf3 rfl rfl rfl rfl rfl rfl rfl rfl rfl hm ho (Row.lit (cs := [.int .i64 j]) (hm.at_ 1 0 rfl)) (intsV_one [(j : Int)]) rfl ⟨by unfold maxLen; omega, by omega⟩ ?_
        intro A3 c3 w L3 ho3 hm
        refine VR.pure rfl rfl (p_assignL rfl) ?_
        refine VR.nil ?_
        repeat (first | refine VC.seq ?_ | refine VC.block ?_ | refine VC.skip ?_)
        refine VC.region ?_
        refine VR.pure rfl rfl (p_add64 rfl rfl (by omega)) ?_
        refine VR.pure rfl rfl (p_moveI rfl) ?_
        refine VR.nil ?_
        have ho4 : OwnS 3 1 A3 (ns ++ [(j : Int)]).length c3 (intsV (ns ++ [(j : Int)])) L3 := by
          unfold intsV
          rw [List.map_append, List.length_append]
          exact ho3
        refine ⟨(j + 1, A3, c3, ns ++ [(j : Int)], L3), ⟨rfl, rfl, by rw [List.length_append]; rfl, rfl, rfl, trivial⟩, ⟨hm.pop2.pop2, ho4, by show j + 1 ≤ 8; omega, by rw [List.length_append]; show ns.length + 1 ≤ j + 1; omega, fun z => ?_⟩, by show 8 - (j + 1) < 8 - j; omega⟩
        rw [List.mem_append, hmem, List.mem_singleton]
        constructor
        · rintro (⟨k, h1, h2, h3⟩ | h)
          · exact ⟨k, h1, by show k < j + 1; omega, h3⟩
          · exact ⟨j, by omega, by show j < j + 1; omega, hq, h⟩
        · rintro ⟨k, h1, h2, h3, h4⟩
          by_cases e : k = j
          · subst e
            exact .inr h4
          · exact .inl ⟨k, h1, by dsimp only at h2; omega, h3, h4⟩
      · repeat (first | refine VC.seq ?_ | refine VC.block ?_ | refine VC.skip ?_)
        refine VC.condF rfl (Bool.not_eq_true _ |>.mp hq) ?_
        repeat (first | refine VC.seq ?_ | refine VC.block ?_ | refine VC.skip ?_)
        repeat (first | refine VC.seq ?_ | refine VC.block ?_ | refine VC.skip ?_)
        refine VC.region ?_
        refine VR.pure rfl rfl (p_add64 rfl rfl (by omega)) ?_
        refine VR.pure rfl rfl (p_moveI rfl) ?_
        refine VR.nil ?_
        refine ⟨(j + 1, A4, c4, ns, L), ⟨rfl, rfl, rfl, rfl, rfl, trivial⟩, ⟨hm.pop, ho, by show j + 1 ≤ 8; omega, by show ns.length ≤ j + 1; omega, fun z => ?_⟩, by show 8 - (j + 1) < 8 - j; omega⟩
        rw [hmem]
        constructor
        · rintro ⟨k, h1, h2, h3⟩
          exact ⟨k, h1, by show k < j + 1; omega, h3⟩
        · rintro ⟨k, h1, h2, h3, h4⟩
          by_cases e : k = j
          · subst e
            exact absurd h3 hq
          · exact ⟨k, h1, by dsimp only at h2; omega, h3, h4⟩
    · repeat (first | refine VC.seq ?_ | refine VC.block ?_ | refine VC.skip ?_)
      refine VC.condF rfl rfl ?_
      repeat (first | refine VC.seq ?_ | refine VC.block ?_ | refine VC.skip ?_)
      have hj0 : ¬ 1 ≤ j := by omega
      repeat (first | refine VC.seq ?_ | refine VC.block ?_ | refine VC.skip ?_)
      refine VC.region ?_
      refine VR.pure rfl rfl (p_add64 rfl rfl (by omega)) ?_
      refine VR.pure rfl rfl (p_moveI rfl) ?_
      refine VR.nil ?_
      refine ⟨(j + 1, A4, c4, ns, L), ⟨rfl, rfl, rfl, rfl, rfl, trivial⟩, ⟨hm.pop, ho, by show j + 1 ≤ 8; omega, by show ns.length ≤ j + 1; omega, fun z => ?_⟩, by show 8 - (j + 1) < 8 - j; omega⟩
      rw [hmem]
      constructor
      · rintro ⟨k, h1, h2, h3⟩
        exact ⟨k, h1, by show k < j + 1; omega, h3⟩
      · rintro ⟨k, h1, h2, h3, h4⟩
        by_cases e : k = j
        · subst e
          exact absurd h1 hj0
        · exact ⟨k, h1, by dsimp only at h2; omega, h3, h4⟩
  · repeat (first | refine VC.seq ?_ | refine VC.block ?_ | refine VC.skip ?_)
    refine VC.exit ?_
    obtain rfl : j = 8 := by omega
    repeat (first | refine VC.seq ?_ | refine VC.block ?_ | refine VC.skip ?_)
    refine VC.region ?_
    refine VR.pure rfl rfl (p_moveL rfl) ?_
    refine VR.pure rfl rfl (p_moveL rfl) ?_
    refine VR.call rfl rfl (r_call2 Try.call13 rfl rfl) (all2_c (es := es) (ids := ns) hm.all hmm (hes.mono hm.le) (by unfold maxLen; omega) (ho.row1 (hm.plus_i 0 rfl))) ?_
    rintro _ w ⟨rfl, hm'⟩
    replace hm := hm.back0 hm'
    refine VR.pure rfl rfl (p_assignB rfl) ?_
    refine VR.nil ?_
    repeat (first | refine VC.seq ?_ | refine VC.block ?_ | refine VC.skip ?_)
    refine VC.ret ⟨_, ResOf.r1 (v := .bool _) rfl rfl, ?_⟩
    refine ⟨congrArg Value.bool (all_same fun z => ?_), hm.pop⟩
    rw [hmem, idsT_mem]
set_option maxHeartbeats 4000000 in
theorem qNw_c {g : Nat} {B : Option Addr} {m d : Nat} {es : List En} {id cur last : Int} {A : Option Addr} {n c : Nat} {stage ep : Int} {td : Nat → Td} {prop com : Int} (hm : Mem F w Ls) (hg : F.heap g = some (tOb id cur last A n c stage ep td prop com)) (hmm : m ≤ maxLen) (hes : ERow F.heap B m es) :
    Calls Try.prog 37 #[.pointer (some ⟨g, 0, none⟩), .slice B m d, .func (.func 40) #[] #[]] w (Ret fun v w' => v = .bool (qT (es.map En.abs) td (fun d => d.nw)) ∧ Mem F w' Ls) := by
  refine Calls.of_vc Try.func37 rfl Try.ntmps37 rfl ?_
  repeat (first | refine VC.seq ?_ | refine VC.block ?_ | refine VC.skip ?_)
  refine VC.region ?_
  refine VR.pure rfl rfl (p_assignB rfl) ?_
  refine VR.nil ?_
  repeat (first | refine VC.seq ?_ | refine VC.block ?_ | refine VC.skip ?_)
  refine VC.region ?_
  refine VR.pure rfl rfl (p_assignL rfl) ?_
  refine VR.nil ?_
  repeat (first | refine VC.seq ?_ | refine VC.block ?_ | refine VC.skip ?_)
  refine VC.region ?_
  refine VR.pure rfl rfl (p_moveP rfl) ?_
  refine VR.pure rfl rfl (p_nilCheck rfl) ?_
  refine VR.pure rfl rfl (p_field (fo := 6) Try.underlying47 rfl Try.sizeOf45 rfl rfl rfl) ?_
  refine VR.val rfl rfl (r_loadAgg (vs := (told td)) Try.isAgg45 Try.sizeOf45 rfl (hm.fix _ _ hg) rfl (agg_at rfl)) ?_
  refine VR.pure rfl rfl (p_moveI rfl) ?_
  refine VR.nil ?_
  repeat (first | refine VC.seq ?_ | refine VC.block ?_ | refine VC.skip ?_)
  refine VC.loop (σ := Nat × Option Addr × Nat × List Int × Blks) (fun s => [(1, .slice B m d), (2, .func (.func 40) #[] #[]), (7, .slice s.2.1 s.2.2.2.1.length s.2.2.1), (13, .agg (told td).toArray), (14, .int .i64 s.1)])
    (fun s w => Mem F w (s.2.2.2.2 :: Ls) ∧ OwnS 3 1 s.2.1 s.2.2.2.1.length s.2.2.1 (intsV s.2.2.2.1) s.2.2.2.2 ∧ s.1 ≤ 8 ∧ s.2.2.2.1.length ≤ s.1 ∧ ∀ z, z ∈ s.2.2.2.1 ↔ ∃ k : Nat, 1 ≤ k ∧ k < s.1 ∧ (fun d : Td => d.nw) (td k) = true ∧ z = k)
    (fun s => 8 - s.1) (0, none, 0, [], []) ⟨rfl, rfl, rfl, rfl, rfl, trivial⟩ ⟨hm.nil_, OwnS.nil _ _, by show 0 ≤ 8; omega, Nat.le_refl _, fun z => ⟨fun h => by simp at h, fun ⟨k, h1, h2, _⟩ => by dsimp only at h2; omega⟩⟩ ?_
  clear hm
  rintro ⟨j, A4, c4, ns, L⟩ AA w ⟨hm, ho, hj8, hnl, hmem⟩
  dsimp only at hm ho hj8 hnl hmem ⊢
  repeat (first | refine VC.seq ?_ | refine VC.block ?_ | refine VC.skip ?_)
  refine VC.region ?_
  refine VR.pure rfl rfl (p_lt rfl rfl) ?_
  refine VR.nil ?_
  repeat (first | refine VC.seq ?_ | refine VC.block ?_ | refine VC.skip ?_)
  refine VC.condD rfl (fun hj => ?_) (fun hj => ?_)
  · have hj7 : j < 8 := by omega
    repeat (first | refine VC.seq ?_ | refine VC.block ?_ | refine VC.skip ?_)
    repeat (first | refine VC.seq ?_ | refine VC.block ?_ | refine VC.skip ?_)
    refine VC.region ?_
    refine VR.pure rfl rfl (p_moveI rfl) ?_
    refine VR.pure rfl rfl (p_indexA Try.underlying45 Try.isAgg44 Try.sizeOf44 rfl rfl hj7 (told_at j hj7)) ?_
    refine VR.new hm rfl rfl (n_allocG Try.zeroValue44) ?_
    intro b9 w hm
    refine VR.pure rfl rfl (p_assignI rfl) ?_
    refine VR.store (cs' := (td j).cells.toArray) (v := .agg _) Try.sizeOf44 rfl rfl rfl rfl rfl hm 0 0 rfl (Nat.ble_eq.mp rfl) rfl ?_
    intro w hm
    refine VR.nil ?_
    repeat (first | refine VC.seq ?_ | refine VC.block ?_ | refine VC.skip ?_)
    refine VC.region ?_
    refine VR.pure rfl rfl (p_moveI rfl) ?_
    refine VR.pure rfl rfl (p_gt rfl rfl) ?_
    refine VR.pure rfl rfl (p_moveB rfl) ?_
    refine VR.splitD 20 rfl (fun q2 => ?_) (fun q2 => ?_)
    refine VR.pureG rfl rfl (p_moveF rfl) ?_
    refine VR.valG rfl rfl (r_loadAgg (vs := (td j).cells) Try.isAgg44 Try.sizeOf44 rfl (hm.at_ 0 0 rfl) rfl (agg_at rfl)) ?_
    refine VR.callG rfl rfl (r_callV Try.call40 rfl rfl) (cNw_c hm) ?_
    rintro _ w ⟨rfl, hm⟩
    refine VR.pure rfl rfl (p_pickT rfl rfl) ?_
    refine VR.nil ?_
    rotate_left 1
    refine VR.pass rfl rfl ?_
    refine VR.pass rfl rfl ?_
    refine VR.pass rfl rfl ?_
    refine VR.pure rfl rfl (p_pickF rfl rfl) ?_
    refine VR.nil ?_
    rotate_left 1
    · by_cases hq : (fun d : Td => d.nw) (td j) = true
      · repeat (first | refine VC.seq ?_ | refine VC.block ?_ | refine VC.skip ?_)
        refine VC.condT rfl hq ?_
        repeat (first | refine VC.seq ?_ | refine VC.block ?_ | refine VC.skip ?_)
        refine VC.region ?_
        refine VR.pure rfl rfl (p_moveL rfl) ?_
        refine VR.pure rfl rfl (p_moveI rfl) ?_
        refine VR.new hm rfl rfl (n_buildSlice1 (vs := [.int _ _]) Try.underlying26 inf3 rfl rfl rfl rfl rfl rfl rfl) ?_
        intro b40 w hm
        replace hm := hm.pull 2 rfl
        refine VR.append (s := 1) (bytes := 8) Try.underlying26 inf3 rfl rfl rfl rfl rfl rfl rfl rfl rfl hm ho (Row.lit (cs := [.int .i64 j]) (hm.at_ 1 0 rfl)) (intsV_one [(j : Int)]) rfl ⟨by unfold maxLen; omega, by omega⟩ ?_
        intro A3 c3 w L3 ho3 hm
        refine VR.pure rfl rfl (p_assignL rfl) ?_
        refine VR.nil ?_
        repeat (first | refine VC.seq ?_ | refine VC.block ?_ | refine VC.skip ?_)
        refine VC.region ?_
        refine VR.pure rfl rfl (p_add64 rfl rfl (by omega)) ?_
        refine VR.pure rfl rfl (p_moveI rfl) ?_
        refine VR.nil ?_
        have ho4 : OwnS 3 1 A3 (ns ++ [(j : Int)]).length c3 (intsV (ns ++ [(j : Int)])) L3 := by
          unfold intsV
          rw [List.map_append, List.length_append]
          exact ho3
        refine ⟨(j + 1, A3, c3, ns ++ [(j : Int)], L3), ⟨rfl, rfl, by rw [List.length_append]; rfl, rfl, rfl, trivial⟩, ⟨hm.pop2.pop2, ho4, by show j + 1 ≤ 8; omega, by rw [List.length_append]; show ns.length + 1 ≤ j + 1; omega, fun z => ?_⟩, by show 8 - (j + 1) < 8 - j; omega⟩
        rw [List.mem_append, hmem, List.mem_singleton]
        constructor
        · rintro (⟨k, h1, h2, h3⟩ | h)
          · exact ⟨k, h1, by show k < j + 1; omega, h3⟩
          · exact ⟨j, by omega, by show j < j + 1; omega, hq, h⟩
        · rintro ⟨k, h1, h2, h3, h4⟩
          by_cases e : k = j
          · subst e
            exact .inr h4
          · exact .inl ⟨k, h1, by dsimp only at h2; omega, h3, h4⟩
      · repeat (first | refine VC.seq ?_ | refine VC.block ?_ | refine VC.skip ?_)
        refine VC.condF rfl (Bool.not_eq_true _ |>.mp hq) ?_
        repeat (first | refine VC.seq ?_ | refine VC.block ?_ | refine VC.skip ?_)
        repeat (first | refine VC.seq ?_ | refine VC.block ?_ | refine VC.skip ?_)
        refine VC.region ?_
        refine VR.pure rfl rfl (p_add64 rfl rfl (by omega)) ?_
        refine VR.pure rfl rfl (p_moveI rfl) ?_
        refine VR.nil ?_
        refine ⟨(j + 1, A4, c4, ns, L), ⟨rfl, rfl, rfl, rfl, rfl, trivial⟩, ⟨hm.pop, ho, by show j + 1 ≤ 8; omega, by show ns.length ≤ j + 1; omega, fun z => ?_⟩, by show 8 - (j + 1) < 8 - j; omega⟩
        rw [hmem]
        constructor
        · rintro ⟨k, h1, h2, h3⟩
          exact ⟨k, h1, by show k < j + 1; omega, h3⟩
        · rintro ⟨k, h1, h2, h3, h4⟩
          by_cases e : k = j
          · subst e
            exact absurd h3 hq
          · exact ⟨k, h1, by dsimp only at h2; omega, h3, h4⟩
    · repeat (first | refine VC.seq ?_ | refine VC.block ?_ | refine VC.skip ?_)
      refine VC.condF rfl rfl ?_
      repeat (first | refine VC.seq ?_ | refine VC.block ?_ | refine VC.skip ?_)
      have hj0 : ¬ 1 ≤ j := by omega
      repeat (first | refine VC.seq ?_ | refine VC.block ?_ | refine VC.skip ?_)
      refine VC.region ?_
      refine VR.pure rfl rfl (p_add64 rfl rfl (by omega)) ?_
      refine VR.pure rfl rfl (p_moveI rfl) ?_
      refine VR.nil ?_
      refine ⟨(j + 1, A4, c4, ns, L), ⟨rfl, rfl, rfl, rfl, rfl, trivial⟩, ⟨hm.pop, ho, by show j + 1 ≤ 8; omega, by show ns.length ≤ j + 1; omega, fun z => ?_⟩, by show 8 - (j + 1) < 8 - j; omega⟩
      rw [hmem]
      constructor
      · rintro ⟨k, h1, h2, h3⟩
        exact ⟨k, h1, by show k < j + 1; omega, h3⟩
      · rintro ⟨k, h1, h2, h3, h4⟩
        by_cases e : k = j
        · subst e
          exact absurd h1 hj0
        · exact ⟨k, h1, by dsimp only at h2; omega, h3, h4⟩
  · repeat (first | refine VC.seq ?_ | refine VC.block ?_ | refine VC.skip ?_)
    refine VC.exit ?_
    obtain rfl : j = 8 := by omega
    repeat (first | refine VC.seq ?_ | refine VC.block ?_ | refine VC.skip ?_)
    refine VC.region ?_
    refine VR.pure rfl rfl (p_moveL rfl) ?_
    refine VR.pure rfl rfl (p_moveL rfl) ?_
    refine VR.call rfl rfl (r_call2 Try.call13 rfl rfl) (all2_c (es := es) (ids := ns) hm.all hmm (hes.mono hm.le) (by unfold maxLen; omega) (ho.row1 (hm.plus_i 0 rfl))) ?_
    rintro _ w ⟨rfl, hm'⟩
    replace hm := hm.back0 hm'
    refine VR.pure rfl rfl (p_assignB rfl) ?_
    refine VR.nil ?_
    repeat (first | refine VC.seq ?_ | refine VC.block ?_ | refine VC.skip ?_)
    refine VC.ret ⟨_, ResOf.r1 (v := .bool _) rfl rfl, ?_⟩
    refine ⟨congrArg Value.bool (all_same fun z => ?_), hm.pop⟩
    rw [hmem, idsT_mem]
set_option maxHeartbeats 4000000 in
theorem qAck_c {g : Nat} {B : Option Addr} {m d : Nat} {es : List En} {id cur last : Int} {A : Option Addr} {n c : Nat} {stage ep : Int} {td : Nat → Td} {prop com : Int} {bz : Nat} {zz : Int} (hm : Mem F w Ls) (hg : F.heap g = some (tOb id cur last A n c stage ep td prop com)) (hz : F.heap bz = some (.cells #[.int .i64 zz] 22 (0, 0))) (hmm : m ≤ maxLen) (hes : ERow F.heap B m es) :
    Calls Try.prog 37 #[.pointer (some ⟨g, 0, none⟩), .slice B m d, .func (.func 44) #[] #[.pointer (some ⟨bz, 0, none⟩)]] w (Ret fun v w' => v = .bool (qT (es.map En.abs) td (fun d => decide (zz ≤ d.ack))) ∧ Mem F w' Ls) := by
  refine Calls.of_vc Try.func37 rfl Try.ntmps37 rfl ?_
  repeat (first | refine VC.seq ?_ | refine VC.block ?_ | refine VC.skip ?_)
  refine VC.region ?_
  refine VR.pure rfl rfl (p_assignB rfl) ?_
  refine VR.nil ?_
  repeat (first | refine VC.seq ?_ | refine VC.block ?_ | refine VC.skip ?_)
  refine VC.region ?_
  refine VR.pure rfl rfl (p_assignL rfl) ?_
  refine VR.nil ?_
  repeat (first | refine VC.seq ?_ | refine VC.block ?_ | refine VC.skip ?_)
  refine VC.region ?_
  refine VR.pure rfl rfl (p_moveP rfl) ?_
  refine VR.pure rfl rfl (p_nilCheck rfl) ?_
  refine VR.pure rfl rfl (p_field (fo := 6) Try.underlying47 rfl Try.sizeOf45 rfl rfl rfl) ?_
  refine VR.val rfl rfl (r_loadAgg (vs := (told td)) Try.isAgg45 Try.sizeOf45 rfl (hm.fix _ _ hg) rfl (agg_at rfl)) ?_
  refine VR.pure rfl rfl (p_moveI rfl) ?_
  refine VR.nil ?_
  repeat (first | refine VC.seq ?_ | refine VC.block ?_ | refine VC.skip ?_)
  refine VC.loop (σ := Nat × Option Addr × Nat × List Int × Blks) (fun s => [(1, .slice B m d), (2, .func (.func 44) #[] #[.pointer (some ⟨bz, 0, none⟩)]), (7, .slice s.2.1 s.2.2.2.1.length s.2.2.1), (13, .agg (told td).toArray), (14, .int .i64 s.1)])
    (fun s w => Mem F w (s.2.2.2.2 :: Ls) ∧ OwnS 3 1 s.2.1 s.2.2.2.1.length s.2.2.1 (intsV s.2.2.2.1) s.2.2.2.2 ∧ s.1 ≤ 8 ∧ s.2.2.2.1.length ≤ s.1 ∧ ∀ z, z ∈ s.2.2.2.1 ↔ ∃ k : Nat, 1 ≤ k ∧ k < s.1 ∧ (fun d : Td => decide (zz ≤ d.ack)) (td k) = true ∧ z = k)
    (fun s => 8 - s.1) (0, none, 0, [], []) ⟨rfl, rfl, rfl, rfl, rfl, trivial⟩ ⟨hm.nil_, OwnS.nil _ _, by show 0 ≤ 8; omega, Nat.le_refl _, fun z => ⟨fun h => by simp at h, fun ⟨k, h1, h2, _⟩ => by dsimp only at h2; omega⟩⟩ ?_
  clear hm
  rintro ⟨j, A4, c4, ns, L⟩ AA w ⟨hm, ho, hj8, hnl, hmem⟩
  dsimp only at hm ho hj8 hnl hmem ⊢
  repeat (first | refine VC.seq ?_ | refine VC.block ?_ | refine VC.skip ?_)
  refine VC.region ?_
  refine VR.pure rfl rfl (p_lt rfl rfl) ?_
  refine VR.nil ?_
  repeat (first | refine VC.seq ?_ | refine VC.block ?_ | refine VC.skip ?_)
  refine VC.condD rfl (fun hj => ?_) (fun hj => ?_)
  · have hj7 : j < 8 := by omega
    repeat (first | refine VC.seq ?_ | refine VC.block ?_ | refine VC.skip ?_)
    repeat (first | refine VC.seq ?_ | refine VC.block ?_ | refine VC.skip ?_)
    refine VC.region ?_
    refine VR.pure rfl rfl (p_moveI rfl) ?_
    refine VR.pure rfl rfl (p_indexA Try.underlying45 Try.isAgg44 Try.sizeOf44 rfl rfl hj7 (told_at j hj7)) ?_
    refine VR.new hm rfl rfl (n_allocG Try.zeroValue44) ?_
    intro b9 w hm
    refine VR.pure rfl rfl (p_assignI rfl) ?_
    refine VR.store (cs' := (td j).cells.toArray) (v := .agg _) Try.sizeOf44 rfl rfl rfl rfl rfl hm 0 0 rfl (Nat.ble_eq.mp rfl) rfl ?_
    intro w hm
    refine VR.nil ?_
    repeat (first | refine VC.seq ?_ | refine VC.block ?_ | refine VC.skip ?_)
    refine VC.region ?_
    refine VR.pure rfl rfl (p_moveI rfl) ?_
    refine VR.pure rfl rfl (p_gt rfl rfl) ?_
    refine VR.pure rfl rfl (p_moveB rfl) ?_
    refine VR.splitD 20 rfl (fun q2 => ?_) (fun q2 => ?_)
    refine VR.pureG rfl rfl (p_moveF rfl) ?_
    refine VR.valG rfl rfl (r_loadAgg (vs := (td j).cells) Try.isAgg44 Try.sizeOf44 rfl (hm.at_ 0 0 rfl) rfl (agg_at rfl)) ?_
    refine VR.callG rfl rfl (r_callV Try.call44 rfl rfl) (cAck_c hm hz) ?_
    rintro _ w ⟨rfl, hm⟩
    refine VR.pure rfl rfl (p_pickT rfl rfl) ?_
    refine VR.nil ?_
    rotate_left 1
    refine VR.pass rfl rfl ?_
    refine VR.pass rfl rfl ?_
    refine VR.pass rfl rfl ?_
    refine VR.pure rfl rfl (p_pickF rfl rfl) ?_
    refine VR.nil ?_
    rotate_left 1
    · by_cases hq : (fun d : Td => decide (zz ≤ d.ack)) (td j) = true
      · repeat (first | refine VC.seq ?_ | refine VC.block ?_ | refine VC.skip ?_)
        refine VC.condT rfl hq ?_
        repeat (first | refine VC.seq ?_ | refine VC.block ?_ | refine VC.skip ?_)
        refine VC.region ?_
        refine VR.pure rfl rfl (p_moveL rfl) ?_
        refine VR.pure rfl rfl (p_moveI rfl) ?_
        refine VR.new hm rfl rfl (n_buildSlice1 (vs := [.int _ _]) Try.underlying26 inf3 rfl rfl rfl rfl rfl rfl rfl) ?_
        intro b40 w hm
        replace hm := hm.pull 2 rfl
        refine VR.append (s := 1) (bytes := 8) Try.underlying26 inf3 rfl rfl rfl rfl rfl rfl rfl rfl rfl hm ho (Row.lit (cs := [.int .i64 j]) (hm.at_ 1 0 rfl)) (intsV_one [(j : Int)]) rfl ⟨by unfold maxLen; omega, by omega⟩ ?_
        intro A3 c3 w L3 ho3 hm
        refine VR.pure rfl rfl (p_assignL rfl) ?_
        refine VR.nil ?_
        repeat (first | refine VC.seq ?_ | refine VC.block ?_ | refine VC.skip ?_)
        refine VC.region ?_
        refine VR.pure rfl rfl (p_add64 rfl rfl (by omega)) ?_
        refine VR.pure rfl rfl (p_moveI rfl) ?_
        refine VR.nil ?_
        have ho4 : OwnS 3 1 A3 (ns ++ [(j : Int)]).length c3 (intsV (ns ++ [(j : Int)])) L3 := by
          unfold intsV
          rw [List.map_append, List.length_append]
          exact ho3
        refine ⟨(j + 1, A3, c3, ns ++ [(j : Int)], L3), ⟨rfl, rfl, by rw [List.length_append]; rfl, rfl, rfl, trivial⟩, ⟨hm.pop2.pop2, ho4, by show j + 1 ≤ 8; omega, by rw [List.length_append]; show ns.length + 1 ≤ j + 1; omega, fun z => ?_⟩, by show 8 - (j + 1) < 8 - j; omega⟩
        rw [List.mem_append, hmem, List.mem_singleton]
        constructor
        · rintro (⟨k, h1, h2, h3⟩ | h)
          · exact ⟨k, h1, by show k < j + 1; omega, h3⟩
          · exact ⟨j, by omega, by show j < j + 1; omega, hq, h⟩
        · rintro ⟨k, h1, h2, h3, h4⟩
          by_cases e : k = j
          · subst e
            exact .inr h4
          · exact .inl ⟨k, h1, by dsimp only at h2; omega, h3, h4⟩
      · repeat (first | refine VC.seq ?_ | refine VC.block ?_ | refine VC.skip ?_)
        refine VC.condF rfl (Bool.not_eq_true _ |>.mp hq) ?_
        repeat (first | refine VC.seq ?_ | refine VC.block ?_ | refine VC.skip ?_)
        repeat (first | refine VC.seq ?_ | refine VC.block ?_ | refine VC.skip ?_)
        refine VC.region ?_
        refine VR.pure rfl rfl (p_add64 rfl rfl (by omega)) ?_
        refine VR.pure rfl rfl (p_moveI rfl) ?_
        refine VR.nil ?_
        refine ⟨(j + 1, A4, c4, ns, L), ⟨rfl, rfl, rfl, rfl, rfl, trivial⟩, ⟨hm.pop, ho, by show j + 1 ≤ 8; omega, by show ns.length ≤ j + 1; omega, fun z => ?_⟩, by show 8 - (j + 1) < 8 - j; omega⟩
        rw [hmem]
        constructor
        · rintro ⟨k, h1, h2, h3⟩
          exact ⟨k, h1, by show k < j + 1; omega, h3⟩
        · rintro ⟨k, h1, h2, h3, h4⟩
          by_cases e : k = j
          · subst e
            exact absurd h3 hq
          · exact ⟨k, h1, by dsimp only at h2; omega, h3, h4⟩
    · repeat (first | refine VC.seq ?_ | refine VC.block ?_ | refine VC.skip ?_)
      refine VC.condF rfl rfl ?_
      repeat (first | refine VC.seq ?_ | refine VC.block ?_ | refine VC.skip ?_)
      have hj0 : ¬ 1 ≤ j := by omega
      repeat (first | refine VC.seq ?_ | refine VC.block ?_ | refine VC.skip ?_)
      refine VC.region ?_
      refine VR.pure rfl rfl (p_add64 rfl rfl (by omega)) ?_
      refine VR.pure rfl rfl (p_moveI rfl) ?_
      refine VR.nil ?_
      refine ⟨(j + 1, A4, c4, ns, L), ⟨rfl, rfl, rfl, rfl, rfl, trivial⟩, ⟨hm.pop, ho, by show j + 1 ≤ 8; omega, by show ns.length ≤ j + 1; omega, fun z => ?_⟩, by show 8 - (j + 1) < 8 - j; omega⟩
      rw [hmem]
      constructor
      · rintro ⟨k, h1, h2, h3⟩
        exact ⟨k, h1, by show k < j + 1; omega, h3⟩
      · rintro ⟨k, h1, h2, h3, h4⟩
        by_cases e : k = j
        · subst e
          exact absurd h1 hj0
        · exact ⟨k, h1, by dsimp only at h2; omega, h3, h4⟩
  · repeat (first | refine VC.seq ?_ | refine VC.block ?_ | refine VC.skip ?_)
    refine VC.exit ?_
    obtain rfl : j = 8 := by omega
    repeat (first | refine VC.seq ?_ | refine VC.block ?_ | refine VC.skip ?_)
    refine VC.region ?_
    refine VR.pure rfl rfl (p_moveL rfl) ?_
    refine VR.pure rfl rfl (p_moveL rfl) ?_
    refine VR.call rfl rfl (r_call2 Try.call13 rfl rfl) (all2_c (es := es) (ids := ns) hm.all hmm (hes.mono hm.le) (by unfold maxLen; omega) (ho.row1 (hm.plus_i 0 rfl))) ?_
    rintro _ w ⟨rfl, hm'⟩
    replace hm := hm.back0 hm'
    refine VR.pure rfl rfl (p_assignB rfl) ?_
    refine VR.nil ?_
    repeat (first | refine VC.seq ?_ | refine VC.block ?_ | refine VC.skip ?_)
    refine VC.ret ⟨_, ResOf.r1 (v := .bool _) rfl rfl, ?_⟩
    refine ⟨congrArg Value.bool (all_same fun z => ?_), hm.pop⟩
    rw [hmem, idsT_mem]
end
end Go.Bd
