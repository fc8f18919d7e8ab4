/- Contracts of layer 23: quorums. Conditions: as each states. -/
import Derived.Test.Ytjnplhmhkindpaa23d
import Derived.Test.YtjnplhmhkindpaaQue
namespace Go.Bd
open Go.Proofs
set_option linter.unusedVariables false
set_option maxRecDepth 20000

theorem pick_c {w : World} {x n : Int} (h : 1 ≤ n ∧ n ≤ 1000000000000000) : Calls Try.prog 7 #[.int .i64 x, .int .i64 n] w (Ret fun v w' => (∃ i : Nat, (i : Int) < n ∧ v = .int .i64 i) ∧ w' = w) := by
  have h1 : x.tmod n < n ∧ -n < x.tmod n := ⟨Int.tmod_lt_of_pos x (by omega), by have := Int.tmod_lt_of_pos (-x) (b := n) (by omega); rw [Int.neg_tmod] at this; omega⟩
  refine Calls.of_vc Try.func7 rfl Try.ntmps7 rfl ?_
  repeat (first | refine VC.seq ?_ | refine VC.block ?_ | refine VC.skip ?_)
  refine VC.region ?_
  refine VR.pure rfl rfl (p_assignI rfl) ?_
  refine VR.nil ?_
  repeat (first | refine VC.seq ?_ | refine VC.block ?_ | refine VC.skip ?_)
  refine VC.region ?_
  refine VR.pure rfl rfl (p_moveI rfl) ?_
  refine VR.pure rfl rfl (p_lt rfl rfl) ?_
  refine VR.nil ?_
  repeat (first | refine VC.seq ?_ | refine VC.block ?_ | refine VC.skip ?_)
  refine VC.condD rfl (fun h2 => ?_) (fun h2 => ?_)
  · omega
  · repeat (first | refine VC.seq ?_ | refine VC.block ?_ | refine VC.skip ?_)
    refine VC.region ?_
    refine VR.pure rfl rfl (p_moveI rfl) ?_
    refine VR.pure rfl rfl (p_moveI rfl) ?_
    refine VR.pure rfl rfl (p_rem rfl rfl (by omega)) ?_
    refine VR.pure rfl rfl (p_assignI rfl) ?_
    refine VR.nil ?_
    repeat (first | refine VC.seq ?_ | refine VC.block ?_ | refine VC.skip ?_)
    refine VC.region ?_
    refine VR.pure rfl rfl (p_moveI rfl) ?_
    refine VR.pure rfl rfl (p_lt rfl rfl) ?_
    refine VR.nil ?_
    repeat (first | refine VC.seq ?_ | refine VC.block ?_ | refine VC.skip ?_)
    refine VC.condD rfl (fun h3 => ?_) (fun h3 => ?_)
    · repeat (first | refine VC.seq ?_ | refine VC.block ?_ | refine VC.skip ?_)
      refine VC.region ?_
      refine VR.pure rfl rfl (p_moveI rfl) ?_
      refine VR.pure rfl rfl (p_moveI rfl) ?_
      refine VR.pure rfl rfl (p_add64 rfl rfl (by omega)) ?_
      refine VR.pure rfl rfl (p_assignI rfl) ?_
      refine VR.nil ?_
      repeat (first | refine VC.seq ?_ | refine VC.block ?_ | refine VC.skip ?_)
      refine VC.region ?_
      refine VR.pure rfl rfl (p_moveI rfl) ?_
      refine VR.pure rfl rfl (p_assignI rfl) ?_
      refine VR.nil ?_
      repeat (first | refine VC.seq ?_ | refine VC.block ?_ | refine VC.skip ?_)
      refine VC.ret ⟨_, ResOf.r1 (v := .int _ _) rfl rfl, ?_⟩
      refine ⟨⟨(x.tmod n + n).toNat, by omega, ?_⟩, rfl⟩
      rw [Int.toNat_of_nonneg (by omega)]
    · repeat (first | refine VC.seq ?_ | refine VC.block ?_ | refine VC.skip ?_)
      refine VC.region ?_
      refine VR.pure rfl rfl (p_moveI rfl) ?_
      refine VR.pure rfl rfl (p_assignI rfl) ?_
      refine VR.nil ?_
      repeat (first | refine VC.seq ?_ | refine VC.block ?_ | refine VC.skip ?_)
      refine VC.ret ⟨_, ResOf.r1 (v := .int _ _) rfl rfl, ?_⟩
      refine ⟨⟨(x.tmod n).toNat, by omega, ?_⟩, rfl⟩
      rw [Int.toNat_of_nonneg (by omega)]

theorem getD_not_mem {xs : List Int} {z : Int} (hno : ∀ j, j < xs.length → xs.getD j 0 ≠ z) : z ∉ xs := by
  intro h
  obtain ⟨j, hj, e⟩ := List.mem_iff_getElem.1 h
  refine hno j hj ?_
  rw [List.getD_eq_getElem?_getD, List.getElem?_eq_getElem hj]
  exact e
theorem getD_mem {xs : List Int} {z : Int} {k : Nat} (hk : k < xs.length) (h : xs.getD k 0 = z) : z ∈ xs := by
  rw [List.getD_eq_getElem?_getD, List.getElem?_eq_getElem hk] at h
  exact h ▸ List.getElem_mem hk
theorem getD_step {xs : List Int} {z : Int} {k : Nat} (hno : ∀ j, j < k → xs.getD j 0 ≠ z) (h : xs.getD k 0 ≠ z) : ∀ j, j < k + 1 → xs.getD j 0 ≠ z := by
  intro j hj
  by_cases e : j = k
  · subst e; exact h
  · exact hno j (by omega)
theorem cell_getD {xs : List Int} {k : Nat} (hk : k < xs.length) : (xs.map (Value.int .i64))[k]? = some (.int .i64 (xs.getD k 0)) := by
  rw [List.getElem?_map, List.getElem?_eq_getElem hk, List.getD_eq_getElem?_getD, List.getElem?_eq_getElem hk]
  rfl

theorem index_c {F : Env} {w : World} {Ls : List Blks} {A : Option Addr} {n c : Nat} {xs : List Int} {z : Int} (hm : Mem F w Ls) (hn : n ≤ maxLen) (hr : Row F.heap A n (xs.map (Value.int .i64))) :
    Calls Try.prog 48 #[.slice A n c, .int .i64 z] w (Ret fun v w' => ∃ i : Int, v = .int .i64 i ∧ (0 ≤ i ↔ z ∈ xs) ∧ Mem F w' Ls) := by
  have hl : xs.length = n := by have := hr.len; rwa [List.length_map] at this
  unfold maxLen at hn
  refine Calls.of_vc Try.func48 rfl Try.ntmps48 rfl ?_
  repeat (first | refine VC.seq ?_ | refine VC.block ?_ | refine VC.skip ?_)
  refine VC.region ?_
  refine VR.pure rfl rfl (p_assignI rfl) ?_
  refine VR.nil ?_
  repeat (first | refine VC.seq ?_ | refine VC.block ?_ | refine VC.skip ?_)
  refine VC.region ?_
  refine VR.pure rfl rfl (p_moveL rfl) ?_
  refine VR.pure rfl rfl (p_len Try.underlying26 rfl) ?_
  refine VR.pure rfl rfl (p_moveI rfl) ?_
  refine VR.nil ?_
  repeat (first | refine VC.seq ?_ | refine VC.block ?_ | refine VC.skip ?_)
  refine VC.loop (σ := Nat) (fun k => [(0, .slice A n c), (1, .int .i64 z), (7, .int .i64 n), (8, .int .i64 k)]) (fun k w => Mem F w Ls ∧ k ≤ n ∧ ∀ j, j < k → xs.getD j 0 ≠ z) (fun k => n - k) 0 ⟨rfl, rfl, rfl, rfl, trivial⟩ ⟨hm, by omega, by omega⟩ ?_
  rintro k A' w ⟨hm, hk, hno⟩
  repeat (first | refine VC.seq ?_ | refine VC.block ?_ | refine VC.skip ?_)
  refine VC.region ?_
  refine VR.pure rfl rfl (p_lt rfl rfl) ?_
  refine VR.nil ?_
  repeat (first | refine VC.seq ?_ | refine VC.block ?_ | refine VC.skip ?_)
  refine VC.condD rfl (fun h => ?_) (fun h => ?_)
  · have hk' : k < n := by omega
    obtain ⟨b, off, blk, T, fr, rfl, hb, hc⟩ := hr.get (by omega)
    repeat (first | refine VC.seq ?_ | refine VC.block ?_ | refine VC.skip ?_)
    refine VC.region ?_
    refine VR.pure rfl rfl (p_moveI rfl) ?_
    refine VR.pure rfl rfl (p_assignI rfl) ?_
    refine VR.nil ?_
    repeat (first | refine VC.seq ?_ | refine VC.block ?_ | refine VC.skip ?_)
    refine VC.region ?_
    refine VR.pure rfl rfl (p_moveI rfl) ?_
    refine VR.pure rfl rfl (p_moveL rfl) ?_
    refine VR.pure rfl rfl (p_moveI rfl) ?_
    refine VR.pure rfl rfl (p_idx1 Try.underlying26 Try.sizeOf3 rfl rfl (by omega)) ?_
    refine VR.val rfl rfl (r_load (v := .int _ _) Try.isAgg3 rfl (hm.fix _ _ hb) ((hc k hk').trans (cell_getD (by omega)))) ?_
    refine VR.pure rfl rfl (p_eq rfl rfl) ?_
    refine VR.nil ?_
    repeat (first | refine VC.seq ?_ | refine VC.block ?_ | refine VC.skip ?_)
    refine VC.condD rfl (fun h2 => ?_) (fun h2 => ?_)
    · repeat (first | refine VC.seq ?_ | refine VC.block ?_ | refine VC.skip ?_)
      refine VC.region ?_
      refine VR.pure rfl rfl (p_moveI rfl) ?_
      refine VR.pure rfl rfl (p_assignI rfl) ?_
      refine VR.nil ?_
      repeat (first | refine VC.seq ?_ | refine VC.block ?_ | refine VC.skip ?_)
      refine VC.ret ⟨_, ResOf.r1 (v := .int _ _) rfl rfl, ?_⟩
      exact ⟨k, rfl, ⟨fun _ => getD_mem (by omega) h2.symm, fun _ => by omega⟩, hm⟩
    · repeat (first | refine VC.seq ?_ | refine VC.block ?_ | refine VC.skip ?_)
      refine VC.region ?_
      refine VR.pure rfl rfl (p_add64 rfl rfl (by omega)) ?_
      refine VR.pure rfl rfl (p_moveI rfl) ?_
      refine VR.nil ?_
      exact ⟨k + 1, ⟨rfl, rfl, rfl, rfl, trivial⟩, ⟨hm, by omega, getD_step hno (fun e => h2 e.symm)⟩, by omega⟩
  · repeat (first | refine VC.seq ?_ | refine VC.block ?_ | refine VC.skip ?_)
    refine VC.exit ?_
    repeat (first | refine VC.seq ?_ | refine VC.block ?_ | refine VC.skip ?_)
    refine VC.region ?_
    refine VR.pure rfl rfl (p_assignI rfl) ?_
    refine VR.nil ?_
    repeat (first | refine VC.seq ?_ | refine VC.block ?_ | refine VC.skip ?_)
    refine VC.ret ⟨_, ResOf.r1 (v := .int _ _) rfl rfl, ?_⟩
    refine ⟨-1, rfl, ⟨fun h0 => by omega, fun h1 => absurd h1 (getD_not_mem fun j hj => hno j (by omega))⟩, hm⟩
theorem contains_c {F : Env} {w : World} {Ls : List Blks} {A : Option Addr} {n c : Nat} {xs : List Int} {z : Int} (hm : Mem F w Ls) (hn : n ≤ maxLen) (hr : Row F.heap A n (xs.map (Value.int .i64))) :
    Calls Try.prog 45 #[.slice A n c, .int .i64 z] w (Ret fun v w' => v = .bool (decide (z ∈ xs)) ∧ Mem F w' Ls) := by
  refine Calls.of_vc Try.func45 rfl Try.ntmps45 rfl ?_
  repeat (first | refine VC.seq ?_ | refine VC.block ?_ | refine VC.skip ?_)
  refine VC.region ?_
  refine VR.pure rfl rfl (p_assignB rfl) ?_
  refine VR.nil ?_
  repeat (first | refine VC.seq ?_ | refine VC.block ?_ | refine VC.skip ?_)
  refine VC.region ?_
  refine VR.pure rfl rfl (p_moveL rfl) ?_
  refine VR.pure rfl rfl (p_moveI rfl) ?_
  refine VR.call rfl rfl (r_call2 Try.call48 rfl rfl) (index_c (z := z) hm hn hr) ?_
  rintro _ w ⟨i, rfl, hi, hm⟩
  refine VR.pure rfl rfl (p_ge rfl rfl) ?_
  refine VR.pure rfl rfl (p_assignB rfl) ?_
  refine VR.nil ?_
  repeat (first | refine VC.seq ?_ | refine VC.block ?_ | refine VC.skip ?_)
  refine VC.ret ⟨_, ResOf.r1 (v := .bool _) rfl rfl, ?_⟩
  exact ⟨congrArg Value.bool (decide_eq_decide.2 hi), hm⟩

/-- What the members of a group weigh together, of those that p holds of. -/
def wsum (p : Mb → Bool) (g : Int) : List Mb → Int
  | [] => 0
  | m :: r => (if m.group = g ∧ p m = true then m.weight else 0) + wsum p g r
def cnt (P : Nat → Bool) : Nat → Int
  | 0 => 0
  | k + 1 => cnt P k + (if P k = true then 1 else 0)
def quorumE (ver : Int) (ms : List Mb) (ids : List Int) : Bool :=
  decide (checkE ver ms = 0) && decide (2 * cnt (fun g => decide (wsum (fun _ => true) g ms < 2 * wsum (fun m => decide (m.id ∈ ids)) g ms)) 7 > cnt (fun g => decide (0 < wsum (fun _ => true) g ms)) 7)
theorem wsum_app (p : Mb → Bool) (g : Int) : ∀ (a b : List Mb), wsum p g (a ++ b) = wsum p g a + wsum p g b
  | [], b => by simp [wsum]
  | m :: r, b => by
    show _ + wsum p g (r ++ b) = (_ + wsum p g r) + wsum p g b
    rw [wsum_app p g r b]
    omega
def MbFit (m : Mb) : Prop := 0 ≤ m.weight ∧ m.weight ≤ 1000 ∧ 0 ≤ m.group ∧ m.group < 7
theorem wsum_bound (p : Mb → Bool) (g : Int) : ∀ (ms : List Mb), (∀ m ∈ ms, MbFit m) → 0 ≤ wsum p g ms ∧ wsum p g ms ≤ 1000 * ms.length
  | [], _ => by simp [wsum]
  | m :: r, h => by
    obtain ⟨h1, h2⟩ := wsum_bound p g r fun x hx => h x (.tail _ hx)
    obtain ⟨h3, h4, _⟩ := h m (.head _)
    show 0 ≤ (if m.group = g ∧ p m = true then m.weight else 0) + wsum p g r ∧ (if m.group = g ∧ p m = true then m.weight else 0) + wsum p g r ≤ 1000 * ((r.length + 1 : Nat) : Int)
    split <;> omega
theorem chk_fit : ∀ (ms : List Mb) (last wt r : Int), chkGo last wt ms = some r → ∀ m ∈ ms, MbFit m
  | [], _, _, _, _, _, h => by simp at h
  | m :: t, last, wt, r, h, x, hx => by
    rw [chkGo_cons] at h
    by_cases h1 : mbOk last m
    · rw [if_pos h1] at h
      rcases List.mem_cons.1 hx with rfl | hx
      · unfold mbOk at h1
        unfold MbFit
        omega
      · exact chk_fit t _ _ _ h x hx
    · rw [if_neg h1] at h
      cases h
theorem check_fit {ver : Int} {ms : List Mb} (h : checkE ver ms = 0) : ms.length ≤ 7 ∧ ∀ m ∈ ms, MbFit m := by
  unfold checkE at h
  by_cases h7 : 7 < ms.length
  · rw [if_pos h7] at h
    omega
  · rw [if_neg h7] at h
    refine ⟨by omega, ?_⟩
    cases hc : chkGo 0 0 ms with
    | none =>
      rw [hc] at h
      exact absurd (show (140 : Int) = 0 from h) (by decide)
    | some r => exact chk_fit ms 0 0 r hc
theorem cnt_bound (P : Nat → Bool) : ∀ k, 0 ≤ cnt P k ∧ cnt P k ≤ k
  | 0 => by simp [cnt]
  | k + 1 => by
    have := cnt_bound P k
    show 0 ≤ cnt P k + (if P k = true then 1 else 0) ∧ cnt P k + (if P k = true then 1 else 0) ≤ ((k + 1 : Nat) : Int)
    split <;> omega
theorem cnt_t {P : Nat → Bool} {k : Nat} (h : P k = true) : cnt P (k + 1) = cnt P k + 1 := by
  show cnt P k + (if P k = true then 1 else 0) = _
  rw [if_pos h]
theorem cnt_f {P : Nat → Bool} {k : Nat} (h : ¬ P k = true) : cnt P (k + 1) = cnt P k := by
  show cnt P k + (if P k = true then 1 else 0) = _
  rw [if_neg h]
  omega
/-- A table of what the groups weigh. -/
def Grp (cur : Array Value) (p : Mb → Bool) (ms : List Mb) : Prop := cur.size = 7 ∧ ∀ g : Nat, g < 7 → cur[0 + g]? = some (.int .i64 (wsum p g ms))
theorem Grp.add {cur : Array Value} {p : Mb → Bool} {ms : List Mb} (h : Grp cur p ms) {id role wt : Int} {gp : Nat} (hg : gp < 7) (hp : p ⟨id, role, wt, gp⟩ = true) : Grp (lay cur (0 + gp) [.int .i64 (wsum p gp ms + wt)]) p (ms ++ [⟨id, role, wt, gp⟩]) := by
  refine ⟨by rw [lay_size]; exact h.1, fun g hg7 => ?_⟩
  have h7 := h.1
  rw [lay_at _ _ _ _ (by simp only [List.length_cons, List.length_nil]; omega), wsum_app]
  have e1 : wsum p g [⟨id, role, wt, gp⟩] = if gp = g then wt else 0 := by
    show (if (gp : Int) = (g : Int) ∧ _ then wt else 0) + 0 = _
    by_cases e : gp = g
    · rw [if_pos ⟨by omega, hp⟩, if_pos e]; omega
    · rw [if_neg (fun x => e (by omega)), if_neg e]; omega
  rw [e1]
  by_cases e : gp = g
  · subst e
    rw [if_pos ⟨by omega, by simp only [List.length_cons, List.length_nil]; omega⟩, if_pos rfl, Nat.sub_self]
    rfl
  · rw [if_neg (by simp only [List.length_cons, List.length_nil]; omega), if_neg e, Int.add_zero]
    exact h.2 g hg7
theorem Grp.skip {cur : Array Value} {p : Mb → Bool} {ms : List Mb} (h : Grp cur p ms) {m : Mb} (hp : ¬ p m = true) : Grp cur p (ms ++ [m]) := by
  refine ⟨h.1, fun g hg => ?_⟩
  rw [wsum_app]
  have e1 : wsum p g [m] = 0 := by
    show (if m.group = g ∧ p m = true then m.weight else 0) + 0 = 0
    rw [if_neg fun x => hp x.2]
    rfl
  rw [e1, Int.add_zero]
  exact h.2 g hg
theorem Grp.zero (p : Mb → Bool) : Grp #[.int .i64 0, .int .i64 0, .int .i64 0, .int .i64 0, .int .i64 0, .int .i64 0, .int .i64 0] p [] := by
  refine ⟨rfl, fun g hg => ?_⟩
  match g, hg with
  | 0, _ => rfl
  | 1, _ => rfl
  | 2, _ => rfl
  | 3, _ => rfl
  | 4, _ => rfl
  | 5, _ => rfl
  | 6, _ => rfl

set_option maxHeartbeats 2000000 in
theorem quorum_c {F : Env} {w : World} {Ls : List Blks} {e : En} {A : Option Addr} {n c : Nat} {ids : List Int} (hm : Mem F w Ls) (hen : e.n ≤ maxLen) (he : MRow F.heap e.A e.n e.ms) (hn : n ≤ maxLen) (hr : Row F.heap A n (ids.map (Value.int .i64))) :
    Calls Try.prog 31 #[.agg #[.int .i64 e.ver, .slice e.A e.n e.c], .slice A n c] w (Ret fun v w' => v = .bool (quorumE e.ver e.ms ids) ∧ Mem F w' Ls) := by
  obtain ⟨ver, eA, en, ec, ems⟩ := e
  dsimp only at hen he ⊢
  have hl := MRow.len he
  refine Calls.of_vc Try.func31 rfl Try.ntmps31 rfl ?_
  repeat (first | refine VC.seq ?_ | refine VC.block ?_ | refine VC.skip ?_)
  refine VC.region ?_
  refine VR.new hm rfl rfl (n_boxG rfl) ?_
  intro b2 w hm
  refine VR.pure rfl rfl (p_assignB rfl) ?_
  refine VR.nil ?_
  repeat (first | refine VC.seq ?_ | refine VC.block ?_ | refine VC.skip ?_)
  refine VC.region ?_
  refine VR.val rfl rfl (r_loadAgg (vs := [.int _ _, .slice _ _ _]) Try.isAgg54 Try.sizeOf54 rfl (hm.at_ 0 0 rfl) rfl (agg_at rfl)) ?_
  refine VR.call rfl rfl (r_call1 Try.call24 rfl) (check_c hm hen he) ?_
  rintro _ w ⟨rfl, hm⟩
  refine VR.pure rfl rfl (p_ne rfl rfl) ?_
  refine VR.nil ?_
  repeat (first | refine VC.seq ?_ | refine VC.block ?_ | refine VC.skip ?_)
  refine VC.condD rfl (fun h => ?_) (fun h => ?_)
  · repeat (first | refine VC.seq ?_ | refine VC.block ?_ | refine VC.skip ?_)
    refine VC.region ?_
    refine VR.pure rfl rfl (p_assignB rfl) ?_
    refine VR.nil ?_
    repeat (first | refine VC.seq ?_ | refine VC.block ?_ | refine VC.skip ?_)
    refine VC.ret ⟨_, ResOf.r1 (v := .bool _) rfl rfl, ?_⟩
    refine ⟨?_, hm.pop⟩
    unfold quorumE
    rw [decide_eq_false h]
    rfl
  · have hck : checkE ver ems = 0 := Classical.not_not.1 h
    obtain ⟨h7, hfit⟩ := check_fit hck
    repeat (first | refine VC.seq ?_ | refine VC.block ?_ | refine VC.skip ?_)
    refine VC.region ?_
    refine VR.new hm rfl rfl (n_allocG Try.zeroValue80) ?_
    intro b5 w hm
    refine VR.new hm rfl rfl (n_allocG Try.zeroValue80) ?_
    intro b6 w hm
    refine VR.nil ?_
    repeat (first | refine VC.seq ?_ | refine VC.block ?_ | refine VC.skip ?_)
    refine VC.region ?_
    refine VR.pure rfl rfl (p_field (fo := 1) Try.underlying54 rfl Try.sizeOf40 rfl rfl rfl) ?_
    refine VR.val rfl rfl (r_load (v := .slice _ _ _) Try.isAgg40 rfl (hm.at_ 2 0 rfl) rfl) ?_
    refine VR.pure rfl rfl (p_len Try.underlying40 rfl) ?_
    refine VR.pure rfl rfl (p_moveI rfl) ?_
    refine VR.nil ?_
    repeat (first | refine VC.seq ?_ | refine VC.block ?_ | refine VC.skip ?_)
    refine VC.loop (σ := Nat × Array Value × Array Value) (fun s => [(1, .slice A n c), (5, .pointer (some ⟨b5, 0, none⟩)), (6, .pointer (some ⟨b6, 0, none⟩)), (16, .slice eA en ec), (17, .int .i64 en), (18, .int .i64 s.1)])
      (fun s w => Mem F w ([(b6, .cells s.2.2 80 (0, 0))] :: [(b5, .cells s.2.1 80 (0, 0))] :: [(b2, .cells #[.int .i64 ver, .slice eA en ec] 54 (0, 0))] :: Ls) ∧ s.1 ≤ en ∧ Grp s.2.1 (fun _ => true) (ems.take s.1) ∧ Grp s.2.2 (fun m => decide (m.id ∈ ids)) (ems.take s.1))
      (fun s => en - s.1) (0, _, _) ⟨rfl, rfl, rfl, rfl, rfl, rfl, trivial⟩ ⟨hm, by omega, Grp.zero _, Grp.zero _⟩ ?_
    clear hm
    rintro ⟨k, ca, cb⟩ A' w ⟨hm, hk, hga, hgb⟩
    dsimp only at hm hk hga hgb ⊢
    repeat (first | refine VC.seq ?_ | refine VC.block ?_ | refine VC.skip ?_)
    refine VC.region ?_
    refine VR.pure rfl rfl (p_lt rfl rfl) ?_
    refine VR.nil ?_
    repeat (first | refine VC.seq ?_ | refine VC.block ?_ | refine VC.skip ?_)
    refine VC.condD rfl (fun h2 => ?_) (fun h2 => ?_)
    · have hk' : k < en := by omega
      obtain ⟨m, hmk, hmm⟩ := get_of (xs := ems) (k := k) (by omega)
      obtain ⟨b, off, blk, T, fr, rfl, hb, hcc⟩ := Row.elem Mb.len he (by decide) (by omega)
      have hmf := hfit m hmm
      have htk : ems.take (k + 1) = ems.take k ++ [m] := by rw [List.take_add_one, hmk]; rfl
      obtain ⟨id, role, wt, grp⟩ := m
      obtain ⟨hm1, hm2, hm3, hm4⟩ := hmf
      dsimp only at hm1 hm2 hm3 hm4
      obtain ⟨gp, rfl⟩ : ∃ gp : Nat, grp = gp := ⟨grp.toNat, by omega⟩
      have hgp : gp < 7 := by omega
      have hsub : ∀ x ∈ ems.take k, MbFit x := fun x hx => hfit x (List.mem_of_mem_take hx)
      have hlt : (ems.take k).length ≤ 7 := by rw [List.length_take]; omega
      have hba := wsum_bound (fun _ => true) gp _ hsub
      have hbb := wsum_bound (fun m => decide (m.id ∈ ids)) gp _ hsub
      repeat (first | refine VC.seq ?_ | refine VC.block ?_ | refine VC.skip ?_)
      refine VC.region ?_
      refine VR.pure rfl rfl (p_idxN Try.underlying40 Try.sizeOf64 rfl rfl hk') ?_
      refine VR.val rfl rfl (r_loadAgg (vs := [.int _ _, .int _ _, .int _ _, .int _ _]) Try.isAgg64 Try.sizeOf64 rfl (hm.fix _ _ hb) rfl (hcc k _ hmk)) ?_
      refine VR.new hm rfl rfl (n_allocG Try.zeroValue64) ?_
      intro b8 w hm
      refine VR.store (cs' := #[.int .i64 id, .int .u8 role, .int .i64 wt, .int .i64 gp]) (v := .agg _) Try.sizeOf64 rfl rfl rfl rfl rfl hm 0 0 rfl (Nat.ble_eq.mp rfl) rfl ?_
      intro w hm
      refine VR.nil ?_
      have hsz := hga.1
      repeat (first | refine VC.seq ?_ | refine VC.block ?_ | refine VC.skip ?_)
      refine VC.free (Kept F ([(b8, .cells #[.int .i64 id, .int .u8 role, .int .i64 wt, .int .i64 gp] 64 (0, 0))] :: [])) [3, 8] rfl (by kernel_rfl) (Kept.one hm.drew 0 rfl) ?_
      replace hm := hm.drew
      refine VD.pure 0 rfl (by kernel_rfl) rfl rfl (p_field (fo := 3) Try.underlying64 rfl Try.sizeOf3 rfl rfl rfl) ?_
      refine VD.read 1 rfl (by kernel_rfl) rfl rfl (fun w' hw' => r_load (v := .int _ _) Try.isAgg3 rfl (hw'.at_ 0 0 rfl) rfl) ?_
      refine VD.pure 2 rfl (by kernel_rfl) rfl rfl (p_idxA1 Try.underlying80 Try.sizeOf3 rfl rfl (by omega)) ?_
      refine VD.pure 4 rfl (by kernel_rfl) rfl rfl (p_field (fo := 2) Try.underlying64 rfl Try.sizeOf3 rfl rfl rfl) ?_
      refine VD.read 5 rfl (by kernel_rfl) rfl rfl (fun w' hw' => r_load (v := .int _ _) Try.isAgg3 rfl (hw'.at_ 0 0 rfl) rfl) ?_
      refine VD.turn1 3 (by kernel_rfl) ?_
      refine VDT.val rfl rfl rfl (r_load (v := .int _ _) Try.isAgg3 rfl (hm.at_ 2 0 rfl) (hga.2 gp hgp)) (Kept.one hm 0 rfl) ?_
      refine VD.pure 6 rfl (by kernel_rfl) rfl rfl (p_add64 rfl rfl (by omega)) ?_
      refine VD.pure 7 rfl (by kernel_rfl) rfl rfl (p_idxA1 Try.underlying80 Try.sizeOf3 rfl rfl (by omega)) ?_
      refine VD.turn1 8 (by kernel_rfl) ?_
      refine VDT.store (cs' := (lay ca (0 + gp) [.int .i64 (wsum (fun _ => true) gp (ems.take k) + wt)])) (v := .int _ _) Try.sizeOf3 rfl rfl rfl rfl rfl rfl hm 2 0 rfl (by omega) rfl (fun w' hm' => Kept.one hm' 0 rfl) ?_
      intro w hm
      refine VD.nil (by kernel_rfl) rfl ?_
      have hga' := hga.add (id := id) (role := role) (wt := wt) hgp rfl
      repeat (first | refine VC.seq ?_ | refine VC.block ?_ | refine VC.skip ?_)
      refine VC.region ?_
      refine VR.pure rfl rfl (p_moveL rfl) ?_
      refine VR.pure rfl rfl (p_field (fo := 0) Try.underlying64 rfl Try.sizeOf3 rfl rfl rfl) ?_
      refine VR.val rfl rfl (r_load (v := .int _ _) Try.isAgg3 rfl (hm.at_ 0 0 rfl) rfl) ?_
      refine VR.call rfl rfl (r_call2 Try.call45 rfl rfl) (contains_c (z := id) hm hn hr) ?_
      rintro _ w ⟨rfl, hm⟩
      refine VR.nil ?_
      repeat (first | refine VC.seq ?_ | refine VC.block ?_ | refine VC.skip ?_)
      refine VC.condD rfl (fun h8 => ?_) (fun h8 => ?_)
      · have hsz2 := hgb.1
        repeat (first | refine VC.seq ?_ | refine VC.block ?_ | refine VC.skip ?_)
        refine VC.free (Kept F ([(b8, .cells #[.int .i64 id, .int .u8 role, .int .i64 wt, .int .i64 gp] 64 (0, 0))] :: [])) [3, 8] rfl (by kernel_rfl) (Kept.one hm.drew 0 rfl) ?_
        replace hm := hm.drew
        refine VD.pure 0 rfl (by kernel_rfl) rfl rfl (p_field (fo := 3) Try.underlying64 rfl Try.sizeOf3 rfl rfl rfl) ?_
        refine VD.read 1 rfl (by kernel_rfl) rfl rfl (fun w' hw' => r_load (v := .int _ _) Try.isAgg3 rfl (hw'.at_ 0 0 rfl) rfl) ?_
        refine VD.pure 2 rfl (by kernel_rfl) rfl rfl (p_idxA1 Try.underlying80 Try.sizeOf3 rfl rfl (by omega)) ?_
        refine VD.pure 4 rfl (by kernel_rfl) rfl rfl (p_field (fo := 2) Try.underlying64 rfl Try.sizeOf3 rfl rfl rfl) ?_
        refine VD.read 5 rfl (by kernel_rfl) rfl rfl (fun w' hw' => r_load (v := .int _ _) Try.isAgg3 rfl (hw'.at_ 0 0 rfl) rfl) ?_
        refine VD.turn1 3 (by kernel_rfl) ?_
        refine VDT.val rfl rfl rfl (r_load (v := .int _ _) Try.isAgg3 rfl (hm.at_ 1 0 rfl) (hgb.2 gp hgp)) (Kept.one hm 0 rfl) ?_
        refine VD.pure 6 rfl (by kernel_rfl) rfl rfl (p_add64 rfl rfl (by omega)) ?_
        refine VD.pure 7 rfl (by kernel_rfl) rfl rfl (p_idxA1 Try.underlying80 Try.sizeOf3 rfl rfl (by omega)) ?_
        refine VD.turn1 8 (by kernel_rfl) ?_
        refine VDT.store (cs' := (lay cb (0 + gp) [.int .i64 (wsum (fun m => decide (m.id ∈ ids)) gp (ems.take k) + wt)])) (v := .int _ _) Try.sizeOf3 rfl rfl rfl rfl rfl rfl hm 1 0 rfl (by omega) rfl (fun w' hm' => Kept.one hm' 0 rfl) ?_
        intro w hm
        refine VD.nil (by kernel_rfl) rfl ?_
        have hgb' := hgb.add (id := id) (role := role) (wt := wt) hgp (decide_eq_true h8)
        repeat (first | refine VC.seq ?_ | refine VC.block ?_ | refine VC.skip ?_)
        refine VC.region ?_
        refine VR.pure rfl rfl (p_add64 rfl rfl (by omega)) ?_
        refine VR.pure rfl rfl (p_moveI rfl) ?_
        refine VR.nil ?_
        exact ⟨(k + 1, _, _), ⟨rfl, rfl, rfl, rfl, rfl, rfl, trivial⟩, ⟨hm.pop, by simp only; omega, by rw [htk]; exact hga', by rw [htk]; exact hgb'⟩, by simp only; omega⟩
      · have hgb' := hgb.skip (m := ⟨id, role, wt, gp⟩) (fun x => h8 (of_decide_eq_true x))
        repeat (first | refine VC.seq ?_ | refine VC.block ?_ | refine VC.skip ?_)
        refine VC.region ?_
        refine VR.pure rfl rfl (p_add64 rfl rfl (by omega)) ?_
        refine VR.pure rfl rfl (p_moveI rfl) ?_
        refine VR.nil ?_
        exact ⟨(k + 1, _, cb), ⟨rfl, rfl, rfl, rfl, rfl, rfl, trivial⟩, ⟨hm.pop, by simp only; omega, by rw [htk]; exact hga', by rw [htk]; exact hgb'⟩, by simp only; omega⟩
    · repeat (first | refine VC.seq ?_ | refine VC.block ?_ | refine VC.skip ?_)
      refine VC.exit ?_
      have hkn : k = en := by omega
      rw [hkn, List.take_of_length_le (by omega)] at hga hgb
      repeat (first | refine VC.seq ?_ | refine VC.block ?_ | refine VC.skip ?_)
      refine VC.region ?_
      refine VR.pure rfl rfl (p_assignI rfl) ?_
      refine VR.pure rfl rfl (p_assignI rfl) ?_
      refine VR.nil ?_
      repeat (first | refine VC.seq ?_ | refine VC.block ?_ | refine VC.skip ?_)
      refine VC.region ?_
      refine VR.pure rfl rfl (p_moveI rfl) ?_
      refine VR.nil ?_
      repeat (first | refine VC.seq ?_ | refine VC.block ?_ | refine VC.skip ?_)
      refine VC.loop (σ := Nat) (fun k => [(5, .pointer (some ⟨b5, 0, none⟩)), (6, .pointer (some ⟨b6, 0, none⟩)), (9, .int .i64 (cnt (fun g => decide (0 < wsum (fun _ => true) g ems)) k)), (10, .int .i64 (cnt (fun g => decide (wsum (fun _ => true) g ems < 2 * wsum (fun m => decide (m.id ∈ ids)) g ems)) k)), (43, .int .i64 k)])
        (fun k w => Mem F w ([(b6, .cells cb 80 (0, 0))] :: [(b5, .cells ca 80 (0, 0))] :: [(b2, .cells #[.int .i64 ver, .slice eA en ec] 54 (0, 0))] :: Ls) ∧ k ≤ 7) (fun k => 7 - k) 0 ⟨rfl, rfl, rfl, rfl, rfl, trivial⟩ ⟨hm, by omega⟩ ?_
      clear hm
      rintro q A2 w ⟨hm, hq⟩
      have hq1 := cnt_bound (fun g => decide (0 < wsum (fun _ => true) g ems)) q
      have hq2 := cnt_bound (fun g => decide (wsum (fun _ => true) g ems < 2 * wsum (fun m => decide (m.id ∈ ids)) g ems)) q
      repeat (first | refine VC.seq ?_ | refine VC.block ?_ | refine VC.skip ?_)
      refine VC.region ?_
      refine VR.pure rfl rfl (p_lt rfl rfl) ?_
      refine VR.nil ?_
      repeat (first | refine VC.seq ?_ | refine VC.block ?_ | refine VC.skip ?_)
      refine VC.condD rfl (fun h3 => ?_) (fun h3 => ?_)
      · have hq' : q < 7 := by omega
        have hba := wsum_bound (fun _ => true) q _ hfit
        have hbb := wsum_bound (fun m => decide (m.id ∈ ids)) q _ hfit
        repeat (first | refine VC.seq ?_ | refine VC.block ?_ | refine VC.skip ?_)
        refine VC.region ?_
        refine VR.pure rfl rfl (p_moveI rfl) ?_
        refine VR.pure rfl rfl (p_assignI rfl) ?_
        refine VR.nil ?_
        repeat (first | refine VC.seq ?_ | refine VC.block ?_ | refine VC.skip ?_)
        refine VC.region ?_
        refine VR.pure rfl rfl (p_moveI rfl) ?_
        refine VR.pure rfl rfl (p_idxA1 Try.underlying80 Try.sizeOf3 rfl rfl (by omega)) ?_
        refine VR.val rfl rfl (r_load (v := .int _ _) Try.isAgg3 rfl (hm.at_ 1 0 rfl) (hga.2 q hq')) ?_
        refine VR.pure rfl rfl (p_gt rfl rfl) ?_
        refine VR.nil ?_
        repeat (first | refine VC.seq ?_ | refine VC.block ?_ | refine VC.skip ?_)
        refine VC.condD rfl (fun h4 => ?_) (fun h4 => ?_)
        · repeat (first | refine VC.seq ?_ | refine VC.block ?_ | refine VC.skip ?_)
          refine VC.region ?_
          refine VR.pure rfl rfl (p_moveI rfl) ?_
          refine VR.pure rfl rfl (p_add64 rfl rfl (by omega)) ?_
          refine VR.pure rfl rfl (p_assignI rfl) ?_
          refine VR.nil ?_
          have he1 := congrArg (Value.int .i64) (cnt_t (P := fun g => decide (0 < wsum (fun _ => true) g ems)) (decide_eq_true h4)).symm
          repeat (first | refine VC.seq ?_ | refine VC.block ?_ | refine VC.skip ?_)
          refine VC.loud (Kept F ([(b6, .cells cb 80 (0, 0))] :: [(b5, .cells ca 80 (0, 0))] :: [(b2, .cells #[.int .i64 ver, .slice eA en ec] 54 (0, 0))] :: Ls)) [] rfl (by kernel_rfl) (Kept.here0 hm.drew) ?_
          replace hm := hm.drew
          refine VL.pure rfl rfl rfl (p_moveI rfl) ?_
          refine VL.pure rfl rfl rfl (p_idxA1 Try.underlying80 Try.sizeOf3 rfl rfl (by omega)) ?_
          refine VL.read rfl rfl rfl (fun w' hw' => r_load (v := .int _ _) Try.isAgg3 rfl (hw'.at_ 0 0 rfl) (hgb.2 q hq')) ?_
          refine VL.pure rfl rfl rfl (p_mul64 rfl rfl (by omega)) ?_
          refine VL.pure rfl rfl rfl (p_moveI rfl) ?_
          refine VL.pure rfl rfl rfl (p_idxA1 Try.underlying80 Try.sizeOf3 rfl rfl (by omega)) ?_
          refine VL.read rfl rfl rfl (fun w' hw' => r_load (v := .int _ _) Try.isAgg3 rfl (hw'.at_ 1 0 rfl) (hga.2 q hq')) ?_
          refine VL.pure rfl rfl rfl (p_gt rfl rfl) ?_
          refine VL.nil ?_
          repeat (first | refine VC.seq ?_ | refine VC.block ?_ | refine VC.skip ?_)
          refine VC.condD rfl (fun h5 => ?_) (fun h5 => ?_)
          · repeat (first | refine VC.seq ?_ | refine VC.block ?_ | refine VC.skip ?_)
            refine VC.region ?_
            refine VR.pure rfl rfl (p_moveI rfl) ?_
            refine VR.pure rfl rfl (p_add64 rfl rfl (by omega)) ?_
            refine VR.pure rfl rfl (p_assignI rfl) ?_
            refine VR.nil ?_
            repeat (first | refine VC.seq ?_ | refine VC.block ?_ | refine VC.skip ?_)
            refine VC.region ?_
            refine VR.pure rfl rfl (p_add64 rfl rfl (by omega)) ?_
            refine VR.pure rfl rfl (p_moveI rfl) ?_
            refine VR.nil ?_
            exact ⟨q + 1, ⟨rfl, rfl, he1, congrArg (Value.int .i64) (cnt_t (P := fun g => decide (wsum (fun _ => true) g ems < 2 * wsum (fun m => decide (m.id ∈ ids)) g ems)) (decide_eq_true h5)).symm, rfl, trivial⟩, ⟨hm, by omega⟩, by omega⟩
          · repeat (first | refine VC.seq ?_ | refine VC.block ?_ | refine VC.skip ?_)
            refine VC.region ?_
            refine VR.pure rfl rfl (p_add64 rfl rfl (by omega)) ?_
            refine VR.pure rfl rfl (p_moveI rfl) ?_
            refine VR.nil ?_
            exact ⟨q + 1, ⟨rfl, rfl, he1, congrArg (Value.int .i64) (cnt_f (P := fun g => decide (wsum (fun _ => true) g ems < 2 * wsum (fun m => decide (m.id ∈ ids)) g ems)) (fun x => h5 (of_decide_eq_true x))).symm, rfl, trivial⟩, ⟨hm, by omega⟩, by omega⟩
        · have he1 := congrArg (Value.int .i64) (cnt_f (P := fun g => decide (0 < wsum (fun _ => true) g ems)) (fun x => h4 (of_decide_eq_true x))).symm
          repeat (first | refine VC.seq ?_ | refine VC.block ?_ | refine VC.skip ?_)
          refine VC.loud (Kept F ([(b6, .cells cb 80 (0, 0))] :: [(b5, .cells ca 80 (0, 0))] :: [(b2, .cells #[.int .i64 ver, .slice eA en ec] 54 (0, 0))] :: Ls)) [] rfl (by kernel_rfl) (Kept.here0 hm.drew) ?_
          replace hm := hm.drew
          refine VL.pure rfl rfl rfl (p_moveI rfl) ?_
          refine VL.pure rfl rfl rfl (p_idxA1 Try.underlying80 Try.sizeOf3 rfl rfl (by omega)) ?_
          refine VL.read rfl rfl rfl (fun w' hw' => r_load (v := .int _ _) Try.isAgg3 rfl (hw'.at_ 0 0 rfl) (hgb.2 q hq')) ?_
          refine VL.pure rfl rfl rfl (p_mul64 rfl rfl (by omega)) ?_
          refine VL.pure rfl rfl rfl (p_moveI rfl) ?_
          refine VL.pure rfl rfl rfl (p_idxA1 Try.underlying80 Try.sizeOf3 rfl rfl (by omega)) ?_
          refine VL.read rfl rfl rfl (fun w' hw' => r_load (v := .int _ _) Try.isAgg3 rfl (hw'.at_ 1 0 rfl) (hga.2 q hq')) ?_
          refine VL.pure rfl rfl rfl (p_gt rfl rfl) ?_
          refine VL.nil ?_
          repeat (first | refine VC.seq ?_ | refine VC.block ?_ | refine VC.skip ?_)
          refine VC.condD rfl (fun h5 => ?_) (fun h5 => ?_)
          · repeat (first | refine VC.seq ?_ | refine VC.block ?_ | refine VC.skip ?_)
            refine VC.region ?_
            refine VR.pure rfl rfl (p_moveI rfl) ?_
            refine VR.pure rfl rfl (p_add64 rfl rfl (by omega)) ?_
            refine VR.pure rfl rfl (p_assignI rfl) ?_
            refine VR.nil ?_
            repeat (first | refine VC.seq ?_ | refine VC.block ?_ | refine VC.skip ?_)
            refine VC.region ?_
            refine VR.pure rfl rfl (p_add64 rfl rfl (by omega)) ?_
            refine VR.pure rfl rfl (p_moveI rfl) ?_
            refine VR.nil ?_
            exact ⟨q + 1, ⟨rfl, rfl, he1, congrArg (Value.int .i64) (cnt_t (P := fun g => decide (wsum (fun _ => true) g ems < 2 * wsum (fun m => decide (m.id ∈ ids)) g ems)) (decide_eq_true h5)).symm, rfl, trivial⟩, ⟨hm, by omega⟩, by omega⟩
          · repeat (first | refine VC.seq ?_ | refine VC.block ?_ | refine VC.skip ?_)
            refine VC.region ?_
            refine VR.pure rfl rfl (p_add64 rfl rfl (by omega)) ?_
            refine VR.pure rfl rfl (p_moveI rfl) ?_
            refine VR.nil ?_
            exact ⟨q + 1, ⟨rfl, rfl, he1, congrArg (Value.int .i64) (cnt_f (P := fun g => decide (wsum (fun _ => true) g ems < 2 * wsum (fun m => decide (m.id ∈ ids)) g ems)) (fun x => h5 (of_decide_eq_true x))).symm, rfl, trivial⟩, ⟨hm, by omega⟩, by omega⟩
      · repeat (first | refine VC.seq ?_ | refine VC.block ?_ | refine VC.skip ?_)
        refine VC.exit ?_
        obtain rfl : q = 7 := by omega
        repeat (first | refine VC.seq ?_ | refine VC.block ?_ | refine VC.skip ?_)
        refine VC.region ?_
        refine VR.pure rfl rfl (p_moveI rfl) ?_
        refine VR.pure rfl rfl (p_mul64 rfl rfl (by omega)) ?_
        refine VR.pure rfl rfl (p_moveI rfl) ?_
        refine VR.pure rfl rfl (p_gt rfl rfl) ?_
        refine VR.pure rfl rfl (p_assignB rfl) ?_
        refine VR.nil ?_
        repeat (first | refine VC.seq ?_ | refine VC.block ?_ | refine VC.skip ?_)
        refine VC.ret ⟨_, ResOf.r1 (v := .bool _) rfl rfl, ?_⟩
        refine ⟨?_, hm.pop.pop.pop⟩
        unfold quorumE
        rw [decide_eq_true hck]
        rfl

set_option maxHeartbeats 1000000 in
theorem all_c {F : Env} {w : World} {Ls : List Blks} {B A : Option Addr} {m d n c : Nat} {es : List En} {ids : List Int} (hm : Mem F w Ls) (hmm : m ≤ maxLen) (hes : ERow F.heap B m es) (hn : n ≤ maxLen) (hr : Row F.heap A n (ids.map (Value.int .i64))) :
    Calls Try.prog 13 #[.slice B m d, .slice A n c] w (Ret fun v w' => (∃ b : Bool, v = .bool b ∧ (b = true → ∀ e ∈ es, quorumE e.ver e.ms ids = true)) ∧ Mem F w' Ls) := by
  have hl := hes.len
  unfold maxLen at hmm
  refine Calls.of_vc Try.func13 rfl Try.ntmps13 rfl ?_
  repeat (first | refine VC.seq ?_ | refine VC.block ?_ | refine VC.skip ?_)
  refine VC.region ?_
  refine VR.pure rfl rfl (p_assignB rfl) ?_
  refine VR.nil ?_
  repeat (first | refine VC.seq ?_ | refine VC.block ?_ | refine VC.skip ?_)
  refine VC.region ?_
  refine VR.pure rfl rfl (p_moveL rfl) ?_
  refine VR.pure rfl rfl (p_len Try.underlying23 rfl) ?_
  refine VR.pure rfl rfl (p_moveI rfl) ?_
  refine VR.nil ?_
  repeat (first | refine VC.seq ?_ | refine VC.block ?_ | refine VC.skip ?_)
  refine VC.loop (σ := Nat) (fun k => [(0, .slice B m d), (1, .slice A n c), (7, .slice B m d), (8, .int .i64 m), (9, .int .i64 k)]) (fun k w => Mem F w Ls ∧ k ≤ m ∧ ∀ e ∈ es.take k, quorumE e.ver e.ms ids = true) (fun k => m - k) 0 ⟨rfl, rfl, rfl, rfl, rfl, trivial⟩ ⟨hm, by omega, by simp⟩ ?_
  clear hm
  rintro k A' w ⟨hm, hk, hq⟩
  repeat (first | refine VC.seq ?_ | refine VC.block ?_ | refine VC.skip ?_)
  refine VC.region ?_
  refine VR.pure rfl rfl (p_lt rfl rfl) ?_
  refine VR.nil ?_
  repeat (first | refine VC.seq ?_ | refine VC.block ?_ | refine VC.skip ?_)
  refine VC.condD rfl (fun h => ?_) (fun h => ?_)
  · have hk' : k < m := by omega
    obtain ⟨e, he, hem⟩ := get_of (xs := es) (k := k) (by omega)
    obtain ⟨b, off, blk, T, fr, rfl, hb, hcc⟩ := hes.row.elem En.len (by decide) (by omega)
    have hok := hes.each e hem
    repeat (first | refine VC.seq ?_ | refine VC.block ?_ | refine VC.skip ?_)
    refine VC.region ?_
    refine VR.pure rfl rfl (p_idxN Try.underlying23 Try.sizeOf54 rfl rfl hk') ?_
    refine VR.val rfl rfl (r_loadAgg (vs := [.int _ _, .slice _ _ _]) Try.isAgg54 Try.sizeOf54 rfl (hm.fix _ _ hb) rfl (hcc k e he)) ?_
    refine VR.new hm rfl rfl (n_allocG Try.zeroValue54) ?_
    intro b6 w hm
    refine VR.store (cs' := #[.int .i64 e.ver, .slice e.A e.n e.c]) (v := .agg _) Try.sizeOf54 rfl rfl rfl rfl rfl hm 0 0 rfl (Nat.ble_eq.mp rfl) rfl ?_
    intro w hm
    refine VR.nil ?_
    repeat (first | refine VC.seq ?_ | refine VC.block ?_ | refine VC.skip ?_)
    refine VC.region ?_
    refine VR.val rfl rfl (r_loadAgg (vs := [.int _ _, .slice _ _ _]) Try.isAgg54 Try.sizeOf54 rfl (hm.at_ 0 0 rfl) rfl (agg_at rfl)) ?_
    refine VR.pure rfl rfl (p_moveL rfl) ?_
    refine VR.call rfl rfl (r_call2 Try.call31 rfl rfl) (quorum_c (e := e) hm (Nat.le_trans hok.2.1 hok.2.2) hok.1 hn hr) ?_
    rintro _ w ⟨rfl, hm⟩
    refine VR.pure rfl rfl (p_not rfl) ?_
    refine VR.nil ?_
    by_cases hqe : quorumE e.ver e.ms ids = true
    · repeat (first | refine VC.seq ?_ | refine VC.block ?_ | refine VC.skip ?_)
      refine VC.condF rfl (by rw [hqe]; rfl) ?_
      repeat (first | refine VC.seq ?_ | refine VC.block ?_ | refine VC.skip ?_)
      refine VC.region ?_
      refine VR.pure rfl rfl (p_add64 rfl rfl (by omega)) ?_
      refine VR.pure rfl rfl (p_moveI rfl) ?_
      refine VR.nil ?_
      refine ⟨k + 1, ⟨rfl, rfl, rfl, rfl, rfl, trivial⟩, ⟨hm.pop, by omega, fun x hx => ?_⟩, by omega⟩
      rw [List.take_add_one, he] at hx
      rcases List.mem_append.1 hx with hx | hx
      · exact hq x hx
      · have : x = e := by simpa using hx
        rw [this]
        exact hqe
    · repeat (first | refine VC.seq ?_ | refine VC.block ?_ | refine VC.skip ?_)
      refine VC.condT rfl (by rw [Bool.not_eq_true _ |>.mp hqe]; rfl) ?_
      repeat (first | refine VC.seq ?_ | refine VC.block ?_ | refine VC.skip ?_)
      refine VC.region ?_
      refine VR.pure rfl rfl (p_assignB rfl) ?_
      refine VR.nil ?_
      repeat (first | refine VC.seq ?_ | refine VC.block ?_ | refine VC.skip ?_)
      refine VC.ret ⟨_, ResOf.r1 (v := .bool _) rfl rfl, ?_⟩
      exact ⟨⟨false, rfl, fun h => by cases h⟩, hm.pop⟩
  · repeat (first | refine VC.seq ?_ | refine VC.block ?_ | refine VC.skip ?_)
    refine VC.exit ?_
    rw [List.take_of_length_le (by omega)] at hq
    repeat (first | refine VC.seq ?_ | refine VC.block ?_ | refine VC.skip ?_)
    refine VC.region ?_
    refine VR.pure rfl rfl (p_moveL rfl) ?_
    refine VR.pure rfl rfl (p_len Try.underlying23 rfl) ?_
    refine VR.pure rfl rfl (p_gt rfl rfl) ?_
    refine VR.pure rfl rfl (p_assignB rfl) ?_
    refine VR.nil ?_
    repeat (first | refine VC.seq ?_ | refine VC.block ?_ | refine VC.skip ?_)
    refine VC.ret ⟨_, ResOf.r1 (v := .bool _) rfl rfl, ?_⟩
    exact ⟨⟨_, rfl, fun _ => hq⟩, hm⟩
end Go.Bd
