/- Contracts of layer 8: bytes held against each other, names, how a disk lies, a file found. Conditions: as each states. -/
import Derived.Test.YtjohjlhjeommiaaFacts
import Derived.Test.YtjohjlhjeommiaaMap
import Derived.Test.YtjohjlhjeommiaaTxt
namespace Go.Bd
open Go.Proofs
set_option linter.unusedVariables false
set_option maxRecDepth 20000

abbrev bytes (l : List Int) : List Value := l.map (Value.int .u8)
abbrev BRow (H : Nat → Option Obj) (A : Option Addr) (n : Nat) (l : List Int) : Prop := Row H A n (bytes l)
theorem bytes_one (l : List Int) : ∀ u ∈ bytes l, u.oneCell' = true := by
  intro u hu
  obtain ⟨x, _, rfl⟩ := List.mem_map.1 hu
  rfl
theorem BRow.len {H : Nat → Option Obj} {A : Option Addr} {n : Nat} {l : List Int} (h : BRow H A n l) : l.length = n := by
  have := Row.len h
  rwa [List.length_map] at this
theorem byte_at {l : List Int} {i : Nat} {x : Int} (h : l[i]? = some x) : (bytes l)[i]? = some (.int .u8 x) := by
  unfold bytes
  rw [List.getElem?_map, h]
  rfl
theorem get_of {α : Type} {xs : List α} {k : Nat} (h : k < xs.length) : ∃ x, xs[k]? = some x ∧ x ∈ xs := ⟨xs[k], List.getElem?_eq_getElem h, List.getElem_mem h⟩
theorem same_at {α : Type} {xs ys : List α} {k : Nat} {x y : α} (hx : xs[k]? = some x) (hy : ys[k]? = some y) (h : xs.take k = ys.take k) (e : x = y) : xs.take (k + 1) = ys.take (k + 1) := by
  rw [List.take_add_one, List.take_add_one, h, hx, hy, e]
theorem same_bytes_c {F : Env} {w : World} {Ls : List Blks} {A B : Option Addr} {n c m d : Nat} {xs ys : List Int} (hm : Mem F w Ls) (hn : n ≤ maxLen)
    (hr : BRow F.heap A n xs) (hs : BRow F.heap B m ys) :
    Calls Try.prog 17 #[.slice A n c, .slice B m d] w (Ret fun v w' => v = .bool (decide (xs = ys)) ∧ Mem F w' Ls) := by
  have hl := hr.len
  have hl2 := hs.len
  unfold maxLen at hn
  refine Calls.of_vc Try.func17 rfl Try.ntmps17 rfl ?_
  repeat (first | refine VC.seq ?_ | refine VC.block ?_ | refine VC.skip ?_)
  refine VC.region ?_
  refine VR.pure rfl rfl (p_assignB rfl) ?_
  refine VR.nil ?_
  repeat (first | refine VC.seq ?_ | refine VC.block ?_ | refine VC.skip ?_)
  refine VC.region ?_
  refine VR.pure rfl rfl (p_moveL rfl) ?_
  refine VR.pure rfl rfl (p_len Try.underlying22 rfl) ?_
  refine VR.pure rfl rfl (p_moveL rfl) ?_
  refine VR.pure rfl rfl (p_len Try.underlying22 rfl) ?_
  refine VR.pure rfl rfl (p_ne rfl rfl) ?_
  refine VR.nil ?_
  repeat (first | refine VC.seq ?_ | refine VC.block ?_ | refine VC.skip ?_)
  refine VC.condD rfl (fun h => ?_) (fun h => ?_)
  · repeat (first | refine VC.seq ?_ | refine VC.block ?_ | refine VC.skip ?_)
    refine VC.region ?_
    refine VR.pure rfl rfl (p_assignB rfl) ?_
    refine VR.nil ?_
    repeat (first | refine VC.seq ?_ | refine VC.block ?_ | refine VC.skip ?_)
    refine VC.ret ⟨_, ResOf.r1 (v := .bool _) rfl rfl, ?_⟩
    exact ⟨congrArg Value.bool (decide_eq_false (fun e => h (by rw [← hl, ← hl2, e]))).symm, hm⟩
  · have hnm : n = m := by omega
    subst hnm
    repeat (first | refine VC.seq ?_ | refine VC.block ?_ | refine VC.skip ?_)
    refine VC.region ?_
    refine VR.pure rfl rfl (p_assignI rfl) ?_
    refine VR.nil ?_
    repeat (first | refine VC.seq ?_ | refine VC.block ?_ | refine VC.skip ?_)
    refine VC.loop (σ := Nat) (fun k => [(0, .slice A n c), (1, .slice B n d), (5, .int .i64 k)]) (fun k w => Mem F w Ls ∧ k ≤ n ∧ xs.take k = ys.take k) (fun k => n - k) 0 ⟨rfl, rfl, rfl, trivial⟩ ⟨hm, by omega, by simp⟩ ?_
    rintro k A' w ⟨hm, hk, hno⟩
    repeat (first | refine VC.seq ?_ | refine VC.block ?_ | refine VC.skip ?_)
    refine VC.region ?_
    refine VR.pure rfl rfl (p_moveI rfl) ?_
    refine VR.pure rfl rfl (p_moveL rfl) ?_
    refine VR.pure rfl rfl (p_len Try.underlying22 rfl) ?_
    refine VR.pure rfl rfl (p_lt rfl rfl) ?_
    refine VR.nil ?_
    repeat (first | refine VC.seq ?_ | refine VC.block ?_ | refine VC.skip ?_)
    refine VC.condD rfl (fun h => ?_) (fun h => ?_)
    · have hk' : k < n := by omega
      obtain ⟨x, hx, _⟩ := get_of (xs := xs) (k := k) (by omega)
      obtain ⟨y, hy, _⟩ := get_of (xs := ys) (k := k) (by omega)
      obtain ⟨b, off, blk, T, fr, rfl, hb, hc⟩ := Row.get hr (by omega)
      obtain ⟨b2, off2, blk2, T2, fr2, rfl, hb2, hc2⟩ := Row.get hs (by omega)
      repeat (first | refine VC.seq ?_ | refine VC.block ?_ | refine VC.skip ?_)
      refine VC.loud (Kept F []) [] rfl (by kernel_rfl) (Kept.of0 hm.drew) ?_
      replace hm := hm.drew
      refine VL.pure rfl rfl rfl (p_moveL rfl) ?_
      refine VL.pure rfl rfl rfl (p_moveI rfl) ?_
      refine VL.pure rfl rfl rfl (p_idx1 Try.underlying22 Try.sizeOf5 rfl rfl hk') ?_
      refine VL.read rfl rfl rfl (fun w' hw' => r_load (v := .int _ _) Try.isAgg5 rfl (hw'.fix _ _ hb) ((hc k hk').trans (byte_at hx))) ?_
      refine VL.pure rfl rfl rfl (p_moveL rfl) ?_
      refine VL.pure rfl rfl rfl (p_moveI rfl) ?_
      refine VL.pure rfl rfl rfl (p_idx1 Try.underlying22 Try.sizeOf5 rfl rfl hk') ?_
      refine VL.read rfl rfl rfl (fun w' hw' => r_load (v := .int _ _) Try.isAgg5 rfl (hw'.fix _ _ hb2) ((hc2 k hk').trans (byte_at hy))) ?_
      refine VL.pure rfl rfl rfl (p_ne rfl rfl) ?_
      refine VL.nil ?_
      repeat (first | refine VC.seq ?_ | refine VC.block ?_ | refine VC.skip ?_)
      refine VC.condD rfl (fun h2 => ?_) (fun h2 => ?_)
      · repeat (first | refine VC.seq ?_ | refine VC.block ?_ | refine VC.skip ?_)
        refine VC.region ?_
        refine VR.pure rfl rfl (p_assignB rfl) ?_
        refine VR.nil ?_
        repeat (first | refine VC.seq ?_ | refine VC.block ?_ | refine VC.skip ?_)
        refine VC.ret ⟨_, ResOf.r1 (v := .bool _) rfl rfl, ?_⟩
        refine ⟨congrArg Value.bool (decide_eq_false (fun e => h2 ?_)).symm, hm⟩
        rw [e, hy] at hx
        exact (Option.some.inj hx).symm
      · repeat (first | refine VC.seq ?_ | refine VC.block ?_ | refine VC.skip ?_)
        refine VC.region ?_
        refine VR.pure rfl rfl (p_moveI rfl) ?_
        refine VR.pure rfl rfl (p_add64 rfl rfl (by omega)) ?_
        refine VR.pure rfl rfl (p_assignI rfl) ?_
        refine VR.nil ?_
        exact ⟨k + 1, ⟨rfl, rfl, rfl, trivial⟩, ⟨hm, by omega, same_at hx hy hno (Classical.not_not.1 h2)⟩, by omega⟩
    · repeat (first | refine VC.seq ?_ | refine VC.block ?_ | refine VC.skip ?_)
      refine VC.exit ?_
      repeat (first | refine VC.seq ?_ | refine VC.block ?_ | refine VC.skip ?_)
      refine VC.region ?_
      refine VR.pure rfl rfl (p_assignB rfl) ?_
      refine VR.nil ?_
      repeat (first | refine VC.seq ?_ | refine VC.block ?_ | refine VC.skip ?_)
      refine VC.ret ⟨_, ResOf.r1 (v := .bool _) rfl rfl, ?_⟩
      refine ⟨congrArg Value.bool (decide_eq_true ?_).symm, hm⟩
      rwa [List.take_of_length_le (by omega), List.take_of_length_le (by omega)] at hno
theorem clone_c {F : Env} {w : World} {Ls : List Blks} {A : Option Addr} {n c : Nat} {l : List Int} (hm : Mem F w Ls) (hn : n ≤ 140737488355328) (hr : BRow F.heap A n l) :
    Calls Try.prog 43 #[.slice A n c] w (Ret fun v w' => ∃ A' c' L, v = .slice A' n c' ∧ OwnS 5 1 A' n c' (bytes l) L ∧ Mem F w' (L :: Ls)) := by
  have hl := hr.len
  refine Calls.of_vc Try.func43 rfl Try.ntmps43 rfl ?_
  repeat (first | refine VC.seq ?_ | refine VC.block ?_ | refine VC.skip ?_)
  refine VC.region ?_
  refine VR.pure rfl rfl (p_assignL rfl) ?_
  refine VR.nil ?_
  repeat (first | refine VC.seq ?_ | refine VC.block ?_ | refine VC.skip ?_)
  refine VC.region ?_
  refine VR.pure rfl rfl (p_moveL rfl) ?_
  refine VR.pure rfl rfl (p_eqNil Try.underlying22 rfl) ?_
  refine VR.nil ?_
  cases A with
  | none =>
    repeat (first | refine VC.seq ?_ | refine VC.block ?_ | refine VC.skip ?_)
    refine VC.condT rfl rfl ?_
    repeat (first | refine VC.seq ?_ | refine VC.block ?_ | refine VC.skip ?_)
    refine VC.region ?_
    refine VR.pure rfl rfl (p_assignL rfl) ?_
    refine VR.nil ?_
    repeat (first | refine VC.seq ?_ | refine VC.block ?_ | refine VC.skip ?_)
    refine VC.ret ⟨_, ResOf.r1 (v := .slice _ _ _) rfl rfl, ?_⟩
    have hn0 : n = 0 := by
      rcases Nat.eq_zero_or_pos n with h0 | h0
      · exact h0
      · obtain ⟨b, off, blk, T, fr, e, _⟩ := hr.get (by omega)
        cases e
    subst hn0
    have hms : l = [] := List.eq_nil_of_length_eq_zero hl
    subst hms
    exact ⟨none, 0, [], rfl, OwnS.nil _ _, hm.nil_⟩
  | some a =>
    repeat (first | refine VC.seq ?_ | refine VC.block ?_ | refine VC.skip ?_)
    refine VC.condF rfl rfl ?_
    have hrow : Row F.heap (some a) (n * 1) (bytes l) := by rw [Nat.mul_one]; exact hr
    repeat (first | refine VC.seq ?_ | refine VC.block ?_ | refine VC.skip ?_)
    refine VC.region ?_
    refine VR.new hm rfl rfl (n_buildSlice0 Try.underlying22 inf5) ?_
    intro g w hm
    refine VR.pure rfl rfl (p_moveL rfl) ?_
    refine VR.append (s := 1) (bytes := 1) Try.underlying22 inf5 rfl rfl rfl rfl rfl rfl rfl rfl rfl hm (OwnS.made (c := 0) (by unfold maxLen; omega) rfl) (hrow.mono hm.fix) (bytes_one l) (Nat.zero_add n) ⟨by unfold maxLen; omega, by omega⟩ ?_
    intro A' c' w' L' ho' hm'
    refine VR.pure rfl rfl (p_assignL rfl) ?_
    refine VR.nil ?_
    repeat (first | refine VC.seq ?_ | refine VC.block ?_ | refine VC.skip ?_)
    refine VC.ret ⟨_, ResOf.r1 (v := .slice _ _ _) rfl rfl, ?_⟩
    exact ⟨A', c', L', rfl, ho', hm'⟩

/-! ### Names -/
def okC (c : Int) : Bool := decide ((97 ≤ c ∧ c ≤ 122) ∨ (48 ≤ c ∧ c ≤ 57) ∨ c = 46 ∨ c = 45)
def bt (s : ByteArray) (q : Nat) : Int := ((s.get! q).toNat : Int)
def nameOk (s : ByteArray) : Bool := (List.range s.size).all (fun q => okC (bt s q)) && decide (1 ≤ s.size) && decide (s.size ≤ 30)
theorem dec_ascii {s : ByteArray} {p : Nat} (h : bt s p < 128) : Utf8.decode s p = ((s.get! p).toNat, 1) := by
  unfold bt at h
  have h1 : (s.get! p).toNat < 128 := by omega
  simp only [Utf8.decode, Nat.add_zero]
  rw [if_pos h1]
theorem dec_high {s : ByteArray} {p : Nat} (h : 128 ≤ bt s p) : 128 ≤ ((Utf8.decode s p).1 : Int) := by
  unfold bt at h
  have h1 : ¬ (s.get! (p + 0)).toNat < 128 := by rw [Nat.add_zero]; omega
  simp only [Utf8.decode, if_neg h1]
  repeat' split
  all_goals simp_all [Utf8.runeError]
  all_goals omega
theorem dec_ok {s : ByteArray} {p : Nat} : okC ((Utf8.decode s p).1 : Int) = okC (bt s p) ∧ (okC (bt s p) = true → (Utf8.decode s p).2 = 1) := by
  by_cases h : bt s p < 128
  · rw [dec_ascii h]
    exact ⟨rfl, fun _ => rfl⟩
  · have h1 := dec_high (s := s) (p := p) (by omega)
    have h2 : okC ((Utf8.decode s p).1 : Int) = false := by unfold okC; exact decide_eq_false (by omega)
    have h3 : okC (bt s p) = false := by unfold okC; exact decide_eq_false (by omega)
    rw [h2, h3]
    exact ⟨rfl, fun h => by cases h⟩
theorem okC_t {c : Int} (h : (97 ≤ c ∧ c ≤ 122) ∨ (48 ≤ c ∧ c ≤ 57) ∨ c = 46 ∨ c = 45) : Value.bool (!true) = .bool (!okC c) := by unfold okC; rw [decide_eq_true h]
theorem okC_d {c : Int} (h : ¬ ((97 ≤ c ∧ c ≤ 122) ∨ (48 ≤ c ∧ c ≤ 57) ∨ c = 46)) : Value.bool (!decide (c = 45)) = .bool (!okC c) := by
  have e : (c = 45) ↔ ((97 ≤ c ∧ c ≤ 122) ∨ (48 ≤ c ∧ c ≤ 57) ∨ c = 46 ∨ c = 45) := ⟨fun e => .inr (.inr (.inr e)), fun e => by omega⟩
  unfold okC
  rw [decide_eq_decide.2 e]
theorem str_eq {a b : ByteArray} : a.toList = b.toList ↔ a = b := by
  rw [ByteArray.toList_eq, ByteArray.toList_eq]
  exact ⟨fun h => Go.WideShapes.bytes_inj h, fun h => by rw [h]⟩

set_option maxHeartbeats 1000000 in
theorem named_c {F : Env} {w : World} {Ls : List Blks} {s : ByteArray} (hm : Mem F w Ls) (hs : s.size ≤ maxLen) : Calls Try.prog 41 #[.string s] w (Ret fun v w' => v = .bool (nameOk s) ∧ Mem F w' Ls) := by
  refine Calls.of_vc Try.func41 rfl Try.ntmps41 rfl ?_
  repeat (first | refine VC.seq ?_ | refine VC.block ?_ | refine VC.skip ?_)
  refine VC.region ?_
  refine VR.pure rfl rfl (p_assignB rfl) ?_
  refine VR.nil ?_
  repeat (first | refine VC.seq ?_ | refine VC.block ?_ | refine VC.skip ?_)
  refine VC.region ?_
  refine VR.pure rfl rfl (p_moveZ rfl) ?_
  refine VR.new hm rfl rfl (n_rangeStr Try.underlying9 rfl) ?_
  intro r w hm
  refine VR.nil ?_
  repeat (first | refine VC.seq ?_ | refine VC.block ?_ | refine VC.skip ?_)
  refine VC.loop (σ := Nat) (fun p => [(0, .string s), (6, .pointer (some ⟨r, 0, none⟩))]) (fun p w => Mem F w ([(r, .stringIter s p)] :: Ls) ∧ p ≤ s.size ∧ ∀ q, q < p → okC (bt s q) = true) (fun p => s.size - p) 0 ⟨rfl, rfl, trivial⟩ ⟨hm, by omega, fun q hq => absurd hq (Nat.not_lt_zero _)⟩ ?_
  clear hm
  rintro p A' w ⟨hm, hp, hok⟩
  by_cases hlt : p < s.size
  · obtain ⟨hd1, hd2⟩ := dec_ok (s := s) (p := p)
    repeat (first | refine VC.seq ?_ | refine VC.block ?_ | refine VC.skip ?_)
    refine VC.region ?_
    refine VR.nextStr rfl rfl rfl hm 0 0 rfl hlt ?_
    intro w hm
    refine VR.pure rfl rfl (p_extract rfl rfl) ?_
    refine VR.nil ?_
    repeat (first | refine VC.seq ?_ | refine VC.block ?_ | refine VC.skip ?_)
    refine VC.condT rfl rfl ?_
    repeat (first | refine VC.seq ?_ | refine VC.block ?_ | refine VC.skip ?_)
    refine VC.region ?_
    refine VR.pure rfl rfl (p_extract rfl rfl) ?_
    refine VR.pure rfl rfl (p_assignI rfl) ?_
    refine VR.nil ?_
    repeat (first | refine VC.seq ?_ | refine VC.block ?_ | refine VC.skip ?_)
    refine VC.meet (σ := Unit) (fun _ => [(0, .string s), (6, .pointer (some ⟨r, 0, none⟩)), (32, .bool (!okC ((Utf8.decode s p).1 : Int)))]) (fun _ w => Mem F w ([(r, .stringIter s (p + (Utf8.decode s p).2))] :: Ls)) ?_ ?_
    · repeat (first | refine VC.seq ?_ | refine VC.block ?_ | refine VC.skip ?_)
      refine VC.region ?_
      refine VR.pure rfl rfl (p_moveI rfl) ?_
      refine VR.pure rfl rfl (p_ge rfl rfl) ?_
      refine VR.pure rfl rfl (p_moveB rfl) ?_
      refine VR.splitD 12 rfl (fun h2 => ?_) (fun h2 => ?_)
      refine VR.pureG rfl rfl (p_moveI rfl) ?_
      refine VR.pureG rfl rfl (p_le rfl rfl) ?_
      refine VR.pure rfl rfl (p_pickT rfl rfl) ?_
      refine VR.pure rfl rfl (p_moveB rfl) ?_
      refine VR.splitD 16 rfl (fun h6 => ?_) (fun h6 => ?_)
      refine VR.pass rfl rfl ?_
      refine VR.pass rfl rfl ?_
      refine VR.pass rfl rfl ?_
      refine VR.pass rfl rfl ?_
      refine VR.pass rfl rfl ?_
      refine VR.pass rfl rfl ?_
      refine VR.pure rfl rfl (p_pickT rfl rfl) ?_
      refine VR.pure rfl rfl (p_moveB rfl) ?_
      refine VR.pass rfl rfl ?_
      refine VR.pass rfl rfl ?_
      refine VR.pure rfl rfl (p_pickT rfl rfl) ?_
      refine VR.pure rfl rfl (p_moveB rfl) ?_
      refine VR.pass rfl rfl ?_
      refine VR.pass rfl rfl ?_
      refine VR.pure rfl rfl (p_pickT rfl rfl) ?_
      refine VR.pure rfl rfl (p_not rfl) ?_
      refine VR.nil ?_
      rotate_left 1
      refine VR.pureG rfl rfl (p_moveI rfl) ?_
      refine VR.pureG rfl rfl (p_ge rfl rfl) ?_
      refine VR.pureG rfl rfl (p_moveB rfl) ?_
      refine VR.splitD 19 rfl (fun h9 => ?_) (fun h9 => ?_)
      refine VR.pureG rfl rfl (p_moveI rfl) ?_
      refine VR.pureG rfl rfl (p_le rfl rfl) ?_
      refine VR.pureG rfl rfl (p_pickT rfl rfl) ?_
      refine VR.pure rfl rfl (p_pickF rfl rfl) ?_
      refine VR.pure rfl rfl (p_moveB rfl) ?_
      refine VR.splitD 24 rfl (fun h14 => ?_) (fun h14 => ?_)
      refine VR.pass rfl rfl ?_
      refine VR.pass rfl rfl ?_
      refine VR.pure rfl rfl (p_pickT rfl rfl) ?_
      refine VR.pure rfl rfl (p_moveB rfl) ?_
      refine VR.pass rfl rfl ?_
      refine VR.pass rfl rfl ?_
      refine VR.pure rfl rfl (p_pickT rfl rfl) ?_
      refine VR.pure rfl rfl (p_not rfl) ?_
      refine VR.nil ?_
      rotate_left 1
      refine VR.pureG rfl rfl (p_moveI rfl) ?_
      refine VR.pureG rfl rfl (p_eq rfl rfl) ?_
      refine VR.pure rfl rfl (p_pickF rfl rfl) ?_
      refine VR.pure rfl rfl (p_moveB rfl) ?_
      refine VR.splitD 28 rfl (fun h18 => ?_) (fun h18 => ?_)
      refine VR.pass rfl rfl ?_
      refine VR.pass rfl rfl ?_
      refine VR.pure rfl rfl (p_pickT rfl rfl) ?_
      refine VR.pure rfl rfl (p_not rfl) ?_
      refine VR.nil ?_
      rotate_left 1
      refine VR.pureG rfl rfl (p_moveI rfl) ?_
      refine VR.pureG rfl rfl (p_eq rfl rfl) ?_
      refine VR.pure rfl rfl (p_pickF rfl rfl) ?_
      refine VR.pure rfl rfl (p_not rfl) ?_
      refine VR.nil ?_
      rotate_left 1
      refine VR.pass rfl rfl ?_
      refine VR.pass rfl rfl ?_
      refine VR.pureG rfl rfl (p_pickF rfl rfl) ?_
      refine VR.pure rfl rfl (p_pickF rfl rfl) ?_
      refine VR.pure rfl rfl (p_moveB rfl) ?_
      refine VR.pureG rfl rfl (p_moveI rfl) ?_
      refine VR.pureG rfl rfl (p_eq rfl rfl) ?_
      refine VR.pure rfl rfl (p_pickF rfl rfl) ?_
      refine VR.pure rfl rfl (p_moveB rfl) ?_
      refine VR.splitD 28 rfl (fun h18 => ?_) (fun h18 => ?_)
      refine VR.pass rfl rfl ?_
      refine VR.pass rfl rfl ?_
      refine VR.pure rfl rfl (p_pickT rfl rfl) ?_
      refine VR.pure rfl rfl (p_not rfl) ?_
      refine VR.nil ?_
      rotate_left 1
      refine VR.pureG rfl rfl (p_moveI rfl) ?_
      refine VR.pureG rfl rfl (p_eq rfl rfl) ?_
      refine VR.pure rfl rfl (p_pickF rfl rfl) ?_
      refine VR.pure rfl rfl (p_not rfl) ?_
      refine VR.nil ?_
      rotate_left 1
      refine VR.pass rfl rfl ?_
      refine VR.pass rfl rfl ?_
      refine VR.pure rfl rfl (p_pickF rfl rfl) ?_
      refine VR.pure rfl rfl (p_moveB rfl) ?_
      refine VR.pureG rfl rfl (p_moveI rfl) ?_
      refine VR.pureG rfl rfl (p_ge rfl rfl) ?_
      refine VR.pureG rfl rfl (p_moveB rfl) ?_
      refine VR.splitD 19 rfl (fun h9 => ?_) (fun h9 => ?_)
      refine VR.pureG rfl rfl (p_moveI rfl) ?_
      refine VR.pureG rfl rfl (p_le rfl rfl) ?_
      refine VR.pureG rfl rfl (p_pickT rfl rfl) ?_
      refine VR.pure rfl rfl (p_pickF rfl rfl) ?_
      refine VR.pure rfl rfl (p_moveB rfl) ?_
      refine VR.splitD 24 rfl (fun h14 => ?_) (fun h14 => ?_)
      refine VR.pass rfl rfl ?_
      refine VR.pass rfl rfl ?_
      refine VR.pure rfl rfl (p_pickT rfl rfl) ?_
      refine VR.pure rfl rfl (p_moveB rfl) ?_
      refine VR.pass rfl rfl ?_
      refine VR.pass rfl rfl ?_
      refine VR.pure rfl rfl (p_pickT rfl rfl) ?_
      refine VR.pure rfl rfl (p_not rfl) ?_
      refine VR.nil ?_
      rotate_left 1
      refine VR.pureG rfl rfl (p_moveI rfl) ?_
      refine VR.pureG rfl rfl (p_eq rfl rfl) ?_
      refine VR.pure rfl rfl (p_pickF rfl rfl) ?_
      refine VR.pure rfl rfl (p_moveB rfl) ?_
      refine VR.splitD 28 rfl (fun h18 => ?_) (fun h18 => ?_)
      refine VR.pass rfl rfl ?_
      refine VR.pass rfl rfl ?_
      refine VR.pure rfl rfl (p_pickT rfl rfl) ?_
      refine VR.pure rfl rfl (p_not rfl) ?_
      refine VR.nil ?_
      rotate_left 1
      refine VR.pureG rfl rfl (p_moveI rfl) ?_
      refine VR.pureG rfl rfl (p_eq rfl rfl) ?_
      refine VR.pure rfl rfl (p_pickF rfl rfl) ?_
      refine VR.pure rfl rfl (p_not rfl) ?_
      refine VR.nil ?_
      rotate_left 1
      refine VR.pass rfl rfl ?_
      refine VR.pass rfl rfl ?_
      refine VR.pureG rfl rfl (p_pickF rfl rfl) ?_
      refine VR.pure rfl rfl (p_pickF rfl rfl) ?_
      refine VR.pure rfl rfl (p_moveB rfl) ?_
      refine VR.pureG rfl rfl (p_moveI rfl) ?_
      refine VR.pureG rfl rfl (p_eq rfl rfl) ?_
      refine VR.pure rfl rfl (p_pickF rfl rfl) ?_
      refine VR.pure rfl rfl (p_moveB rfl) ?_
      refine VR.splitD 28 rfl (fun h18 => ?_) (fun h18 => ?_)
      refine VR.pass rfl rfl ?_
      refine VR.pass rfl rfl ?_
      refine VR.pure rfl rfl (p_pickT rfl rfl) ?_
      refine VR.pure rfl rfl (p_not rfl) ?_
      refine VR.nil ?_
      rotate_left 1
      refine VR.pureG rfl rfl (p_moveI rfl) ?_
      refine VR.pureG rfl rfl (p_eq rfl rfl) ?_
      refine VR.pure rfl rfl (p_pickF rfl rfl) ?_
      refine VR.pure rfl rfl (p_not rfl) ?_
      refine VR.nil ?_
      rotate_left 1
      all_goals
        refine ⟨(), ⟨rfl, rfl, ?_, trivial⟩, hm⟩
        first
          | exact okC_t (by omega)
          | exact okC_d (by omega)
    · clear hm
      rintro _ A2 w hm
      rw [hd1]
      by_cases hk : okC (bt s p) = true
      · rw [hd2 hk] at hm
        rw [hk]
        repeat (first | refine VC.seq ?_ | refine VC.block ?_ | refine VC.skip ?_)
        refine VC.condF rfl rfl ?_
        repeat (first | refine VC.seq ?_ | refine VC.block ?_ | refine VC.skip ?_)
        exact ⟨p + 1, ⟨rfl, rfl, trivial⟩, ⟨hm, by omega, fun q hq => by
          by_cases e : q = p
          · rw [e]; exact hk
          · exact hok q (by omega)⟩, by omega⟩
      · have hk' : okC (bt s p) = false := by simpa using hk
        rw [hk']
        repeat (first | refine VC.seq ?_ | refine VC.block ?_ | refine VC.skip ?_)
        refine VC.condT rfl rfl ?_
        repeat (first | refine VC.seq ?_ | refine VC.block ?_ | refine VC.skip ?_)
        refine VC.region ?_
        refine VR.pure rfl rfl (p_assignB rfl) ?_
        refine VR.nil ?_
        repeat (first | refine VC.seq ?_ | refine VC.block ?_ | refine VC.skip ?_)
        refine VC.ret ⟨_, ResOf.r1 (v := .bool _) rfl rfl, ?_⟩
        refine ⟨congrArg Value.bool ?_, hm.pop⟩
        have : (List.range s.size).all (fun q => okC (bt s q)) = false := by
          rw [Bool.eq_false_iff]
          intro h
          exact hk (List.all_eq_true.1 h p (List.mem_range.2 hlt))
        unfold nameOk
        rw [this]
        rfl
  · repeat (first | refine VC.seq ?_ | refine VC.block ?_ | refine VC.skip ?_)
    refine VC.region ?_
    refine VR.nextStrEnd rfl rfl rfl hm 0 0 rfl hlt ?_
    refine VR.pure rfl rfl (p_extract rfl rfl) ?_
    refine VR.nil ?_
    repeat (first | refine VC.seq ?_ | refine VC.block ?_ | refine VC.skip ?_)
    refine VC.condF rfl rfl ?_
    repeat (first | refine VC.seq ?_ | refine VC.block ?_ | refine VC.skip ?_)
    refine VC.exit ?_
    have hall : (List.range s.size).all (fun q => okC (bt s q)) = true := List.all_eq_true.2 fun q hq => hok q (by have := List.mem_range.1 hq; omega)
    repeat (first | refine VC.seq ?_ | refine VC.block ?_ | refine VC.skip ?_)
    refine VC.region ?_
    refine VR.pure rfl rfl (p_moveZ rfl) ?_
    refine VR.pure rfl rfl (p_neS rfl rfl) ?_
    refine VR.pure rfl rfl (p_moveB rfl) ?_
    refine VR.splitD 35 rfl (fun h2 => ?_) (fun h2 => ?_)
    refine VR.pureG rfl rfl (p_moveZ rfl) ?_
    refine VR.pureG rfl rfl (p_lenS Try.underlying9 rfl) ?_
    refine VR.pureG rfl rfl (p_le rfl rfl) ?_
    refine VR.pure rfl rfl (p_pickT rfl rfl) ?_
    refine VR.pure rfl rfl (p_assignB rfl) ?_
    refine VR.nil ?_
    rotate_left 1
    refine VR.pass rfl rfl ?_
    refine VR.pass rfl rfl ?_
    refine VR.pass rfl rfl ?_
    refine VR.pure rfl rfl (p_pickF rfl rfl) ?_
    refine VR.pure rfl rfl (p_assignB rfl) ?_
    refine VR.nil ?_
    rotate_left 1
    · repeat (first | refine VC.seq ?_ | refine VC.block ?_ | refine VC.skip ?_)
      refine VC.ret ⟨_, ResOf.r1 (v := .bool _) rfl rfl, ?_⟩
      refine ⟨?_, hm.pop⟩
      have h0 : 1 ≤ s.size := by
        rcases Nat.eq_zero_or_pos s.size with e | e
        · exact absurd (str_eq.2 (show s = ⟨#[]⟩ from by
            apply Go.WideShapes.bytes_inj
            have : s.data.toList.length = 0 := by simpa using e
            rw [List.eq_nil_of_length_eq_zero this])) h2
        · exact e
      unfold nameOk
      rw [hall, decide_eq_true h0]
      exact congrArg Value.bool (decide_eq_decide.2 (by omega))
    · repeat (first | refine VC.seq ?_ | refine VC.block ?_ | refine VC.skip ?_)
      refine VC.ret ⟨_, ResOf.r1 (v := .bool _) rfl rfl, ?_⟩
      refine ⟨?_, hm.pop⟩
      have h0 : s = ⟨#[]⟩ := str_eq.1 (Classical.not_not.1 h2)
      subst h0
      rfl

/-! ### How a disk lies -/
structure Fl where
  name : ByteArray
  l : List Int
  sy : Int
  born : Nat
  blk : Nat
  A : Option Addr
  n : Nat
  c : Nat
  L : Blks
abbrev Fl.ent (f : Fl) : MapEntry := ⟨.string f.name, .pointer (some ⟨f.blk, 0, none⟩), f.born⟩
abbrev Fl.obj (f : Fl) : Obj := .cells #[.slice f.A f.n f.c, .int .i64 f.sy] 68 (0, 0)
def Fl.mem (f : Fl) : Blks := (f.blk, f.obj) :: f.L
abbrev Fa := ByteArray × List Int × Int
def Fl.abs (f : Fl) : Fa := (f.name, f.l, f.sy)
structure FlOk (f : Fl) : Prop where
  own : OwnO 5 1 f.A f.n f.c (bytes f.l) f.L
  n : f.n ≤ 4194304
  sy : 0 ≤ f.sy ∧ f.sy ≤ f.n
theorem FlOk.len {f : Fl} (h : FlOk f) : f.l.length = f.n := by
  have := h.own.1
  rw [List.length_map] at this
  omega
structure Dk where
  room : Int
  used : Int
  clock : Nat
  fs : List Fl
abbrev Dk.ents (D : Dk) : List MapEntry := D.fs.map Fl.ent
abbrev Dk.obj (D : Dk) (m : Nat) : Obj := .cells #[.int .i64 D.room, .int .i64 D.used, .map (some m)] 63 (0, 0)
abbrev Dk.map (D : Dk) : Obj := .map D.ents.toArray D.clock
def dkB (g m : Nat) (D : Dk) : List Blks := [(g, D.obj m)] :: [(m, D.map)] :: D.fs.map Fl.mem
def sumL : List Fa → Int
  | [] => 0
  | f :: r => f.2.1.length + sumL r
theorem sumL_app (a b : List Fa) : sumL (a ++ b) = sumL a + sumL b := by
  induction a with
  | nil => simp [sumL]
  | cons x r ih => show (x.2.1.length : Int) + sumL (r ++ b) = (x.2.1.length + sumL r) + sumL b; rw [ih]; omega
theorem sumL_nonneg : ∀ (a : List Fa), 0 ≤ sumL a
  | [] => by simp [sumL]
  | x :: r => by have := sumL_nonneg r; show 0 ≤ (x.2.1.length : Int) + sumL r; omega
theorem sumL_perm {a b : List Fa} (h : a.Perm b) : sumL a = sumL b := by
  induction h with
  | nil => rfl
  | cons x _ ih => show (x.2.1.length : Int) + _ = x.2.1.length + _; rw [ih]
  | swap x y l => show (y.2.1.length : Int) + (x.2.1.length + sumL l) = x.2.1.length + (y.2.1.length + sumL l); omega
  | trans _ _ h1 h2 => rw [h1, h2]
structure DkOk (D : Dk) : Prop where
  ents : Ents .string D.ents D.clock
  files : ∀ f ∈ D.fs, FlOk f
  used : D.used = sumL (D.fs.map Fl.abs)
  room : D.used ≤ D.room ∧ D.room ≤ 9223372036854775807
  names : ∀ f ∈ D.fs, f.name.size ≤ 30
theorem DkOk.pos {D : Dk} (h : DkOk D) : 0 ≤ D.used := by rw [h.used]; exact sumL_nonneg _

theorem perm_out {α : Type} {l : List α} {i : Nat} {x : α} (h : l[i]? = some x) : l.Perm (x :: l.eraseIdx i) := by
  induction l generalizing i with
  | nil => simp at h
  | cons a r ih =>
    cases i with
    | zero =>
      obtain rfl := Option.some.inj (show some a = some x from h)
      exact List.Perm.refl _
    | succ j => exact ((ih (i := j) h).cons a).trans (List.Perm.swap x a _)
theorem perm_set {α : Type} {l : List α} {i : Nat} {x y : α} (h : l[i]? = some x) : (l.set i y).Perm (y :: l.eraseIdx i) := by
  have h1 := perm_out (l := l.set i y) (i := i) (x := y) (by rw [List.getElem?_set_self (List.getElem?_eq_some_iff.1 h).1])
  rwa [List.eraseIdx_set_eq] at h1
theorem flat_perm {a b : List Fl} (h : a.Perm b) : (a.map Fl.mem).flatten.Perm (b.map Fl.mem).flatten := (h.map Fl.mem).flatten
theorem Mem.openF {F : Env} {w : World} {X Y : Blks} {fs : List Fl} {i : Nat} {f : Fl} (hm : Mem F w (X :: Y :: fs.map Fl.mem)) (hi : fs[i]? = some f) : Mem F w (X :: Y :: [(f.blk, f.obj)] :: f.L :: (fs.eraseIdx i).map Fl.mem) := hm.permF (by
  have h := flat_perm (perm_out hi)
  simp only [List.flatten_cons]
  refine (List.Perm.refl _).append ((List.Perm.refl _).append ?_)
  refine h.trans ?_
  rw [List.map_cons, List.flatten_cons, ← List.append_assoc]
  exact List.Perm.refl _)
theorem Mem.closeF {F : Env} {w : World} {X Y : Blks} {fs : List Fl} {i : Nat} {f : Fl} (f' : Fl) (hm : Mem F w (X :: Y :: [(f'.blk, f'.obj)] :: f'.L :: (fs.eraseIdx i).map Fl.mem)) (hi : fs[i]? = some f) : Mem F w (X :: Y :: (fs.set i f').map Fl.mem) := hm.permF (by
  have h := flat_perm (perm_set (y := f') hi)
  simp only [List.flatten_cons]
  refine (List.Perm.refl _).append ((List.Perm.refl _).append ?_)
  refine List.Perm.trans ?_ h.symm
  rw [List.map_cons, List.flatten_cons, ← List.append_assoc]
  exact List.Perm.refl _)

theorem made_c {F : Env} {w : World} {Ls : List Blks} {g m : Nat} {a b : Int} (hm : Mem F w ([(g, .cells #[.int .i64 a, .int .i64 b, .map (some m)] 63 (0, 0))] :: Ls)) :
    Calls Try.prog 40 #[.pointer (some ⟨g, 0, none⟩)] w (Ret fun v w' => v = .bool true ∧ Mem F w' ([(g, .cells #[.int .i64 a, .int .i64 b, .map (some m)] 63 (0, 0))] :: Ls)) := by
  refine Calls.of_vc Try.func40 rfl Try.ntmps40 rfl ?_
  repeat (first | refine VC.seq ?_ | refine VC.block ?_ | refine VC.skip ?_)
  refine VC.region ?_
  refine VR.pure rfl rfl (p_assignB rfl) ?_
  refine VR.nil ?_
  repeat (first | refine VC.seq ?_ | refine VC.block ?_ | refine VC.skip ?_)
  refine VC.region ?_
  refine VR.pure rfl rfl (p_moveP rfl) ?_
  refine VR.pure rfl rfl (p_neNilP Try.underlying24 rfl) ?_
  refine VR.pure rfl rfl (p_moveB rfl) ?_
  refine VR.knownT 5 rfl rfl ?_
  refine VR.pureG rfl rfl (p_moveP rfl) ?_
  refine VR.pureG rfl rfl (p_nilCheck rfl) ?_
  refine VR.pureG rfl rfl (p_field (fo := 2) Try.underlying63 rfl Try.sizeOf61 rfl rfl rfl) ?_
  refine VR.valG rfl rfl (r_load (v := .map _) Try.isAgg61 rfl (hm.at_ 0 0 rfl) rfl) ?_
  refine VR.pureG rfl rfl (p_neNilM Try.underlying61 rfl) ?_
  refine VR.pure rfl rfl (p_pickT rfl rfl) ?_
  refine VR.pure rfl rfl (p_assignB rfl) ?_
  refine VR.nil ?_
  repeat (first | refine VC.seq ?_ | refine VC.block ?_ | refine VC.skip ?_)
  refine VC.ret ⟨_, ResOf.r1 (v := .bool _) rfl rfl, ?_⟩
  exact ⟨rfl, hm⟩
theorem find_hit_c {F : Env} {w : World} {g m i : Nat} {D : Dk} {f : Fl} (hm : Mem F w (dkB g m D)) (hD : DkOk D) (hi : D.fs[i]? = some f) :
    Calls Try.prog 42 #[.pointer (some ⟨g, 0, none⟩), .string f.name] w (Ret fun v w' => v = .tuple #[.pointer (some ⟨f.blk, 0, none⟩), .int .i64 0] ∧ Mem F w' (dkB g m D)) := by
  have he : D.ents[i]? = some f.ent := by rw [List.getElem?_map, hi]; rfl
  unfold dkB at hm ⊢
  refine Calls.of_vc Try.func42 rfl Try.ntmps42 rfl ?_
  repeat (first | refine VC.seq ?_ | refine VC.block ?_ | refine VC.skip ?_)
  refine VC.region ?_
  refine VR.pure rfl rfl (p_assignP rfl) ?_
  refine VR.pure rfl rfl (p_assignI rfl) ?_
  refine VR.nil ?_
  repeat (first | refine VC.seq ?_ | refine VC.block ?_ | refine VC.skip ?_)
  refine VC.region ?_
  refine VR.pure rfl rfl (p_moveP rfl) ?_
  refine VR.call rfl rfl (r_call1 Try.call40 rfl) (made_c hm) ?_
  rintro _ w ⟨rfl, hm⟩
  refine VR.pure rfl rfl (p_not rfl) ?_
  refine VR.nil ?_
  repeat (first | refine VC.seq ?_ | refine VC.block ?_ | refine VC.skip ?_)
  refine VC.condF rfl rfl ?_
  repeat (first | refine VC.seq ?_ | refine VC.block ?_ | refine VC.skip ?_)
  refine VC.region ?_
  refine VR.pure rfl rfl (p_moveP rfl) ?_
  refine VR.pure rfl rfl (p_nilCheck rfl) ?_
  refine VR.pure rfl rfl (p_field (fo := 2) Try.underlying63 rfl Try.sizeOf61 rfl rfl rfl) ?_
  refine VR.val rfl rfl (r_load (v := .map _) Try.isAgg61 rfl (hm.at_ 0 0 rfl) rfl) ?_
  refine VR.pure rfl rfl (p_moveZ rfl) ?_
  refine VR.val rfl rfl (r_lookup Try.underlying61 Try.underlying9 rfl rfl (hm.at_ 1 0 rfl) hD.ents he rfl) ?_
  refine VR.pure rfl rfl (p_assignP rfl) ?_
  refine VR.nil ?_
  repeat (first | refine VC.seq ?_ | refine VC.block ?_ | refine VC.skip ?_)
  refine VC.region ?_
  refine VR.pure rfl rfl (p_moveP rfl) ?_
  refine VR.pure rfl rfl (p_eqNilP Try.underlying66 rfl) ?_
  refine VR.nil ?_
  repeat (first | refine VC.seq ?_ | refine VC.block ?_ | refine VC.skip ?_)
  refine VC.condF rfl rfl ?_
  repeat (first | refine VC.seq ?_ | refine VC.block ?_ | refine VC.skip ?_)
  refine VC.region ?_
  refine VR.pure rfl rfl (p_moveP rfl) ?_
  refine VR.pure rfl rfl (p_assignP rfl) ?_
  refine VR.pure rfl rfl (p_assignI rfl) ?_
  refine VR.nil ?_
  repeat (first | refine VC.seq ?_ | refine VC.block ?_ | refine VC.skip ?_)
  refine VC.ret ⟨_, ResOf.r2 (v := .pointer _) (u := .int _ _) rfl rfl rfl, ?_⟩
  exact ⟨rfl, hm⟩
theorem find_miss_c {F : Env} {w : World} {g m : Nat} {D : Dk} {s : ByteArray} (hm : Mem F w (dkB g m D)) (hD : DkOk D) (hno : ∀ f ∈ D.fs, f.name ≠ s) :
    Calls Try.prog 42 #[.pointer (some ⟨g, 0, none⟩), .string s] w (Ret fun v w' => v = .tuple #[.pointer none, .int .i64 6] ∧ Mem F w' (dkB g m D)) := by
  have hn : ∀ x ∈ D.ents, x.key ≠ .string s := fun x hx e => by
    obtain ⟨f, hf, rfl⟩ := List.mem_map.1 hx
    exact hno f hf (by injection e)
  unfold dkB at hm ⊢
  refine Calls.of_vc Try.func42 rfl Try.ntmps42 rfl ?_
  repeat (first | refine VC.seq ?_ | refine VC.block ?_ | refine VC.skip ?_)
  refine VC.region ?_
  refine VR.pure rfl rfl (p_assignP rfl) ?_
  refine VR.pure rfl rfl (p_assignI rfl) ?_
  refine VR.nil ?_
  repeat (first | refine VC.seq ?_ | refine VC.block ?_ | refine VC.skip ?_)
  refine VC.region ?_
  refine VR.pure rfl rfl (p_moveP rfl) ?_
  refine VR.call rfl rfl (r_call1 Try.call40 rfl) (made_c hm) ?_
  rintro _ w ⟨rfl, hm⟩
  refine VR.pure rfl rfl (p_not rfl) ?_
  refine VR.nil ?_
  repeat (first | refine VC.seq ?_ | refine VC.block ?_ | refine VC.skip ?_)
  refine VC.condF rfl rfl ?_
  repeat (first | refine VC.seq ?_ | refine VC.block ?_ | refine VC.skip ?_)
  refine VC.region ?_
  refine VR.pure rfl rfl (p_moveP rfl) ?_
  refine VR.pure rfl rfl (p_nilCheck rfl) ?_
  refine VR.pure rfl rfl (p_field (fo := 2) Try.underlying63 rfl Try.sizeOf61 rfl rfl rfl) ?_
  refine VR.val rfl rfl (r_load (v := .map _) Try.isAgg61 rfl (hm.at_ 0 0 rfl) rfl) ?_
  refine VR.pure rfl rfl (p_moveZ rfl) ?_
  refine VR.val rfl rfl (r_lookupNo Try.underlying61 Try.underlying9 rfl rfl Try.zeroValue66 (hm.at_ 1 0 rfl) hD.ents trivial hn) ?_
  refine VR.pure rfl rfl (p_assignP rfl) ?_
  refine VR.nil ?_
  repeat (first | refine VC.seq ?_ | refine VC.block ?_ | refine VC.skip ?_)
  refine VC.region ?_
  refine VR.pure rfl rfl (p_moveP rfl) ?_
  refine VR.pure rfl rfl (p_eqNilP Try.underlying66 rfl) ?_
  refine VR.nil ?_
  repeat (first | refine VC.seq ?_ | refine VC.block ?_ | refine VC.skip ?_)
  refine VC.condT rfl rfl ?_
  repeat (first | refine VC.seq ?_ | refine VC.block ?_ | refine VC.skip ?_)
  refine VC.region ?_
  refine VR.pure rfl rfl (p_assignP rfl) ?_
  refine VR.pure rfl rfl (p_assignI rfl) ?_
  refine VR.nil ?_
  repeat (first | refine VC.seq ?_ | refine VC.block ?_ | refine VC.skip ?_)
  refine VC.ret ⟨_, ResOf.r2 (v := .pointer _) (u := .int _ _) rfl rfl rfl, ?_⟩
  exact ⟨rfl, hm⟩
end Go.Bd
