/- Contracts of layer 8: the document's disk: names, how it lies, what is told of it. Conditions: as each states. -/
import Derived.Test.Ytjohjlhjeommiaa08n
import Derived.Test.YtjohjlhjeommiaaApart
namespace Go.Bd
open Go.Proofs
set_option linter.unusedVariables false
set_option maxRecDepth 20000

section
variable {P : Program} {f : Fr} {dst : Option Tmp} {ty : TypeId} {pos : String} {after : Array Edge} {gd : Option (Nat × Bool)}
/-- A byte of a text. -/
theorem p_indexS {t : TypeId} {x i : Operand} {s : ByteArray} {k : IntKind} {j : Nat} (ht : P.underlying t = some .string) (hx : f.ev x = .string s) (hi : f.ev i = .int k (j : Int)) (h : j < s.size) :
    Pure P f ⟨dst, .index t x i, ty, pos, after, gd⟩ (.int .u8 (bt s j)) := fun w => by
  have h1 := run_index_string (P := P) w t s k (j : Int) ht
  rw [dif_pos ⟨by omega, by omega⟩] at h1
  have h2 : ((s[(j : Int).toNat]'(by omega)).toNat : Int) = bt s j := by
    unfold bt
    have : s[(j : Int).toNat]'(by omega) = s.get! j := by
      have e : (j : Int).toNat = j := Int.toNat_natCast j
      simp only [e]
      exact (getElem!_pos s.data j h).symm
    rw [this]
  rw [h2] at h1
  simp [execOp, hx, hi, h1]
theorem p_ltS {t t' : TypeId} {x y : Operand} {a b : ByteArray} (hx : f.ev x = .string a) (hy : f.ev y = .string b) :
    Pure P f ⟨dst, .binOp .lss t x y t', ty, pos, after, gd⟩ (.bool (decide (keyN a < keyN b))) := fun w => by
  have he : (eqGuard .lss t x y (.string a) (.string b)).run P w = .ok () w := by simp [eqGuard]
  have h2 : Op.bytesLess a.toList b.toList = decide (keyN a < keyN b) := by
    rw [bytesLess_eq, ByteArray.toList_eq, ByteArray.toList_eq]
    rfl
  simp [execOp, hx, hy, he, binOp, Op.stringOp, h2]
end

/-- A file of the document's. -/
structure Rf where
  name : ByteArray
  A : Option Addr
  n : Nat
  c : Nat
  l : List Int
  sy : Int
def Rf.cells (x : Rf) : List Value := [.string x.name, .slice x.A x.n x.c, .int .i64 x.sy]
theorem Rf.len (x : Rf) : x.cells.length = 3 := rfl
theorem Rf.one (x : Rf) : ∀ u ∈ x.cells, u.oneCell' = true := by
  intro u hu
  simp only [Rf.cells, List.mem_cons, List.not_mem_nil, or_false] at hu
  rcases hu with rfl | rfl | rfl <;> rfl
def Rf.abs (x : Rf) : Fa := (x.name, x.l, x.sy)
abbrev rcells (rs : List Rf) : List Value := rs.flatMap Rf.cells
theorem rcells_one (rs : List Rf) : ∀ u ∈ rcells rs, u.oneCell' = true := fun u hu => by
  obtain ⟨x, _, hx⟩ := List.mem_flatMap.1 hu
  exact x.one u hx
theorem rcells_app (a b : List Rf) : rcells (a ++ b) = rcells a ++ rcells b := List.flatMap_append
theorem rcells_len (rs : List Rf) : (rcells rs).length = rs.length * 3 := flat_len Rf.len rs
/-- A file as it may be: bytes that are there, no more than may be, of them synced. -/
structure RfOk (H : Nat → Option Obj) (x : Rf) : Prop where
  row : BRow H x.A x.n x.l
  le : x.n ≤ x.c ∧ x.n ≤ 4194304
  sy : 0 ≤ x.sy ∧ x.sy ≤ x.n
theorem RfOk.mono {H H' : Nat → Option Obj} {x : Rf} (h : RfOk H x) (hle : ∀ b o, H b = some o → H' b = some o) : RfOk H' x := ⟨Row.mono h.row hle, h.le, h.sy⟩
theorem RfOk.len {H : Nat → Option Obj} {x : Rf} (h : RfOk H x) : x.l.length = x.n := BRow.len h.row
abbrev OwnR (rs : List Rf) (A : Option Addr) (c : Nat) (L : Blks) : Prop := OwnS 112 3 A rs.length c (rcells rs) L
abbrev rdisk (room : Int) (rs : List Rf) (A : Option Addr) (c : Nat) : Obj := .cells #[.int .i64 room, .slice A rs.length c] 109 (0, 0)
def RMem (F : Env) (w : World) (g : Nat) (room : Int) (rs : List Rf) (Ls : List Blks) : Prop := ∃ A c L, OwnR rs A c L ∧ (∀ x ∈ rs, RfOk F.heap x) ∧ Mem F w ([(g, rdisk room rs A c)] :: L :: Ls)

section
variable {F : Env} {w : World} {Ls : List Blks} {g : Nat} {room : Int} {rs : List Rf} {s t : ByteArray}
theorem rnew_c (hm : Mem F w Ls) : Calls Try.prog 33 #[.int .i64 room] w (Ret fun v w' => ∃ g, v = .pointer (some ⟨g, 0, none⟩) ∧ RMem F w' g (max room 0) [] Ls) := by
  refine Calls.of_vc Try.func33 rfl Try.ntmps33 rfl ?_
  repeat (first | refine VC.seq ?_ | refine VC.block ?_ | refine VC.skip ?_)
  refine VC.region ?_
  refine VR.pure rfl rfl (p_assignP rfl) ?_
  refine VR.nil ?_
  repeat (first | refine VC.seq ?_ | refine VC.block ?_ | refine VC.skip ?_)
  refine VC.region ?_
  refine VR.pure rfl rfl (p_moveI rfl) ?_
  refine VR.pure rfl rfl (p_max rfl rfl) ?_
  refine VR.pure rfl rfl (p_build (vs := [(0, .int _ _)]) bld109_0 rfl) ?_
  refine VR.new hm rfl rfl (n_boxG rfl) ?_
  intro g w hm
  refine VR.pure rfl rfl (p_assignP rfl) ?_
  refine VR.nil ?_
  repeat (first | refine VC.seq ?_ | refine VC.block ?_ | refine VC.skip ?_)
  refine VC.ret ⟨_, ResOf.r1 (v := .pointer _) rfl rfl, ?_⟩
  exact ⟨g, rfl, none, 0, [], OwnS.nil _ _, by simp, hm.nil_.swap⟩
set_option maxHeartbeats 1000000 in
theorem rname_c (hm : Mem F w Ls) (hs : s.size ≤ maxLen) : Calls Try.prog 92 #[.string s] w (Ret fun v w' => v = .bool (nameOk s) ∧ Mem F w' Ls) := by
  have hs' : s.size ≤ 9223372036854775807 := hs
  refine Calls.of_vc Try.func92 rfl Try.ntmps92 rfl ?_
  repeat (first | refine VC.seq ?_ | refine VC.block ?_ | refine VC.skip ?_)
  refine VC.region ?_
  refine VR.pure rfl rfl (p_assignB rfl) ?_
  refine VR.nil ?_
  repeat (first | refine VC.seq ?_ | refine VC.block ?_ | refine VC.skip ?_)
  refine VC.region ?_
  refine VR.pure rfl rfl (p_assignI rfl) ?_
  refine VR.nil ?_
  repeat (first | refine VC.seq ?_ | refine VC.block ?_ | refine VC.skip ?_)
  refine VC.loop (σ := Nat) (fun p => [(0, .string s), (3, .int .i64 p)]) (fun p w => Mem F w Ls ∧ p ≤ s.size ∧ ∀ q, q < p → okC (bt s q) = true) (fun p => s.size - p) 0 ⟨rfl, rfl, trivial⟩ ⟨hm, by omega, fun q hq => absurd hq (Nat.not_lt_zero _)⟩ ?_
  clear hm
  rintro p A' w ⟨hm, hp, hok⟩
  repeat (first | refine VC.seq ?_ | refine VC.block ?_ | refine VC.skip ?_)
  refine VC.region ?_
  refine VR.pure rfl rfl (p_moveI rfl) ?_
  refine VR.pure rfl rfl (p_moveZ rfl) ?_
  refine VR.pure rfl rfl (p_lenS Try.underlying9 rfl) ?_
  refine VR.pure rfl rfl (p_lt rfl rfl) ?_
  refine VR.nil ?_
  repeat (first | refine VC.seq ?_ | refine VC.block ?_ | refine VC.skip ?_)
  refine VC.condD rfl (fun h2 => ?_) (fun h2 => ?_)
  · have hlt : p < s.size := by omega
    repeat (first | refine VC.seq ?_ | refine VC.block ?_ | refine VC.skip ?_)
    refine VC.region ?_
    refine VR.pure rfl rfl (p_moveZ rfl) ?_
    refine VR.pure rfl rfl (p_moveI rfl) ?_
    refine VR.pure rfl rfl (p_indexS Try.underlying9 rfl rfl hlt) ?_
    refine VR.pure rfl rfl (p_assignI rfl) ?_
    refine VR.nil ?_
    repeat (first | refine VC.seq ?_ | refine VC.block ?_ | refine VC.skip ?_)
    refine VC.meet (σ := Unit) (fun _ => [(0, .string s), (3, .int .i64 p), (36, .bool (!okC (bt s p)))]) (fun _ w => Mem F w Ls) ?_ ?_
    · repeat (first | refine VC.seq ?_ | refine VC.block ?_ | refine VC.skip ?_)
      refine VC.region ?_
      refine VR.pure rfl rfl (p_moveI rfl) ?_
      refine VR.pure rfl rfl (p_ge rfl rfl) ?_
      refine VR.pure rfl rfl (p_moveB rfl) ?_
      refine VR.splitD 16 rfl (fun h2 => ?_) (fun h2 => ?_)
      refine VR.pureG rfl rfl (p_moveI rfl) ?_
      refine VR.pureG rfl rfl (p_le rfl rfl) ?_
      refine VR.pure rfl rfl (p_pickT rfl rfl) ?_
      refine VR.pure rfl rfl (p_moveB rfl) ?_
      refine VR.splitD 20 rfl (fun h6 => ?_) (fun h6 => ?_)
      refine VR.pass rfl rfl ?_
      refine VR.pass rfl rfl ?_
      refine VR.pass rfl rfl ?_
      refine VR.pass rfl rfl ?_
      refine VR.pass rfl rfl ?_
      refine VR.pass rfl rfl ?_
      refine VR.pure rfl rfl (p_pickT rfl rfl) ?_
      refine VR.pure rfl rfl (p_moveB rfl) ?_
      refine VR.pass rfl rfl ?_
      refine VR.pass rfl rfl ?_
      refine VR.pure rfl rfl (p_pickT rfl rfl) ?_
      refine VR.pure rfl rfl (p_moveB rfl) ?_
      refine VR.pass rfl rfl ?_
      refine VR.pass rfl rfl ?_
      refine VR.pure rfl rfl (p_pickT rfl rfl) ?_
      refine VR.pure rfl rfl (p_not rfl) ?_
      refine VR.nil ?_
      rotate_left 1
      refine VR.pureG rfl rfl (p_moveI rfl) ?_
      refine VR.pureG rfl rfl (p_ge rfl rfl) ?_
      refine VR.pureG rfl rfl (p_moveB rfl) ?_
      refine VR.splitD 23 rfl (fun h9 => ?_) (fun h9 => ?_)
      refine VR.pureG rfl rfl (p_moveI rfl) ?_
      refine VR.pureG rfl rfl (p_le rfl rfl) ?_
      refine VR.pureG rfl rfl (p_pickT rfl rfl) ?_
      refine VR.pure rfl rfl (p_pickF rfl rfl) ?_
      refine VR.pure rfl rfl (p_moveB rfl) ?_
      refine VR.splitD 28 rfl (fun h14 => ?_) (fun h14 => ?_)
      refine VR.pass rfl rfl ?_
      refine VR.pass rfl rfl ?_
      refine VR.pure rfl rfl (p_pickT rfl rfl) ?_
      refine VR.pure rfl rfl (p_moveB rfl) ?_
      refine VR.pass rfl rfl ?_
      refine VR.pass rfl rfl ?_
      refine VR.pure rfl rfl (p_pickT rfl rfl) ?_
      refine VR.pure rfl rfl (p_not rfl) ?_
      refine VR.nil ?_
      rotate_left 1
      refine VR.pureG rfl rfl (p_moveI rfl) ?_
      refine VR.pureG rfl rfl (p_eq rfl rfl) ?_
      refine VR.pure rfl rfl (p_pickF rfl rfl) ?_
      refine VR.pure rfl rfl (p_moveB rfl) ?_
      refine VR.splitD 32 rfl (fun h18 => ?_) (fun h18 => ?_)
      refine VR.pass rfl rfl ?_
      refine VR.pass rfl rfl ?_
      refine VR.pure rfl rfl (p_pickT rfl rfl) ?_
      refine VR.pure rfl rfl (p_not rfl) ?_
      refine VR.nil ?_
      rotate_left 1
      refine VR.pureG rfl rfl (p_moveI rfl) ?_
      refine VR.pureG rfl rfl (p_eq rfl rfl) ?_
      refine VR.pure rfl rfl (p_pickF rfl rfl) ?_
      refine VR.pure rfl rfl (p_not rfl) ?_
      refine VR.nil ?_
      rotate_left 1
      refine VR.pass rfl rfl ?_
      refine VR.pass rfl rfl ?_
      refine VR.pureG rfl rfl (p_pickF rfl rfl) ?_
      refine VR.pure rfl rfl (p_pickF rfl rfl) ?_
      refine VR.pure rfl rfl (p_moveB rfl) ?_
      refine VR.pureG rfl rfl (p_moveI rfl) ?_
      refine VR.pureG rfl rfl (p_eq rfl rfl) ?_
      refine VR.pure rfl rfl (p_pickF rfl rfl) ?_
      refine VR.pure rfl rfl (p_moveB rfl) ?_
      refine VR.splitD 32 rfl (fun h18 => ?_) (fun h18 => ?_)
      refine VR.pass rfl rfl ?_
      refine VR.pass rfl rfl ?_
      refine VR.pure rfl rfl (p_pickT rfl rfl) ?_
      refine VR.pure rfl rfl (p_not rfl) ?_
      refine VR.nil ?_
      rotate_left 1
      refine VR.pureG rfl rfl (p_moveI rfl) ?_
      refine VR.pureG rfl rfl (p_eq rfl rfl) ?_
      refine VR.pure rfl rfl (p_pickF rfl rfl) ?_
      refine VR.pure rfl rfl (p_not rfl) ?_
      refine VR.nil ?_
      rotate_left 1
      refine VR.pass rfl rfl ?_
      refine VR.pass rfl rfl ?_
      refine VR.pure rfl rfl (p_pickF rfl rfl) ?_
      refine VR.pure rfl rfl (p_moveB rfl) ?_
      refine VR.pureG rfl rfl (p_moveI rfl) ?_
      refine VR.pureG rfl rfl (p_ge rfl rfl) ?_
      refine VR.pureG rfl rfl (p_moveB rfl) ?_
      refine VR.splitD 23 rfl (fun h9 => ?_) (fun h9 => ?_)
      refine VR.pureG rfl rfl (p_moveI rfl) ?_
      refine VR.pureG rfl rfl (p_le rfl rfl) ?_
      refine VR.pureG rfl rfl (p_pickT rfl rfl) ?_
      refine VR.pure rfl rfl (p_pickF rfl rfl) ?_
      refine VR.pure rfl rfl (p_moveB rfl) ?_
      refine VR.splitD 28 rfl (fun h14 => ?_) (fun h14 => ?_)
      refine VR.pass rfl rfl ?_
      refine VR.pass rfl rfl ?_
      refine VR.pure rfl rfl (p_pickT rfl rfl) ?_
      refine VR.pure rfl rfl (p_moveB rfl) ?_
      refine VR.pass rfl rfl ?_
      refine VR.pass rfl rfl ?_
      refine VR.pure rfl rfl (p_pickT rfl rfl) ?_
      refine VR.pure rfl rfl (p_not rfl) ?_
      refine VR.nil ?_
      rotate_left 1
      refine VR.pureG rfl rfl (p_moveI rfl) ?_
      refine VR.pureG rfl rfl (p_eq rfl rfl) ?_
      refine VR.pure rfl rfl (p_pickF rfl rfl) ?_
      refine VR.pure rfl rfl (p_moveB rfl) ?_
      refine VR.splitD 32 rfl (fun h18 => ?_) (fun h18 => ?_)
      refine VR.pass rfl rfl ?_
      refine VR.pass rfl rfl ?_
      refine VR.pure rfl rfl (p_pickT rfl rfl) ?_
      refine VR.pure rfl rfl (p_not rfl) ?_
      refine VR.nil ?_
      rotate_left 1
      refine VR.pureG rfl rfl (p_moveI rfl) ?_
      refine VR.pureG rfl rfl (p_eq rfl rfl) ?_
      refine VR.pure rfl rfl (p_pickF rfl rfl) ?_
      refine VR.pure rfl rfl (p_not rfl) ?_
      refine VR.nil ?_
      rotate_left 1
      refine VR.pass rfl rfl ?_
      refine VR.pass rfl rfl ?_
      refine VR.pureG rfl rfl (p_pickF rfl rfl) ?_
      refine VR.pure rfl rfl (p_pickF rfl rfl) ?_
      refine VR.pure rfl rfl (p_moveB rfl) ?_
      refine VR.pureG rfl rfl (p_moveI rfl) ?_
      refine VR.pureG rfl rfl (p_eq rfl rfl) ?_
      refine VR.pure rfl rfl (p_pickF rfl rfl) ?_
      refine VR.pure rfl rfl (p_moveB rfl) ?_
      refine VR.splitD 32 rfl (fun h18 => ?_) (fun h18 => ?_)
      refine VR.pass rfl rfl ?_
      refine VR.pass rfl rfl ?_
      refine VR.pure rfl rfl (p_pickT rfl rfl) ?_
      refine VR.pure rfl rfl (p_not rfl) ?_
      refine VR.nil ?_
      rotate_left 1
      refine VR.pureG rfl rfl (p_moveI rfl) ?_
      refine VR.pureG rfl rfl (p_eq rfl rfl) ?_
      refine VR.pure rfl rfl (p_pickF rfl rfl) ?_
      refine VR.pure rfl rfl (p_not rfl) ?_
      refine VR.nil ?_
      rotate_left 1
      all_goals
        refine ⟨(), ⟨rfl, rfl, ?_, trivial⟩, hm⟩
        first
          | exact okC_t (by omega)
          | exact okC_d (by omega)
    · clear hm
      rintro _ A2 w hm
      by_cases hk : okC (bt s p) = true
      · rw [hk]
        repeat (first | refine VC.seq ?_ | refine VC.block ?_ | refine VC.skip ?_)
        refine VC.condF rfl rfl ?_
        repeat (first | refine VC.seq ?_ | refine VC.block ?_ | refine VC.skip ?_)
        repeat (first | refine VC.seq ?_ | refine VC.block ?_ | refine VC.skip ?_)
        refine VC.region ?_
        refine VR.pure rfl rfl (p_moveI rfl) ?_
        refine VR.pure rfl rfl (p_add64 rfl rfl (by omega)) ?_
        refine VR.pure rfl rfl (p_assignI rfl) ?_
        refine VR.nil ?_
        exact ⟨p + 1, ⟨rfl, rfl, trivial⟩, ⟨hm, by omega, fun q hq => by
          by_cases e : q = p
          · rw [e]; exact hk
          · exact hok q (by omega)⟩, by omega⟩
      · have hk' : okC (bt s p) = false := by simpa using hk
        rw [hk']
        repeat (first | refine VC.seq ?_ | refine VC.block ?_ | refine VC.skip ?_)
        refine VC.condT rfl rfl ?_
        repeat (first | refine VC.seq ?_ | refine VC.block ?_ | refine VC.skip ?_)
        refine VC.region ?_
        refine VR.pure rfl rfl (p_assignB rfl) ?_
        refine VR.nil ?_
        repeat (first | refine VC.seq ?_ | refine VC.block ?_ | refine VC.skip ?_)
        refine VC.ret ⟨_, ResOf.r1 (v := .bool _) rfl rfl, ?_⟩
        refine ⟨congrArg Value.bool ?_, hm⟩
        have : (List.range s.size).all (fun q => okC (bt s q)) = false := by
          rw [Bool.eq_false_iff]
          intro h
          exact hk (List.all_eq_true.1 h p (List.mem_range.2 hlt))
        unfold nameOk
        rw [this]
        rfl
  · repeat (first | refine VC.seq ?_ | refine VC.block ?_ | refine VC.skip ?_)
    refine VC.exit ?_
    have hall : (List.range s.size).all (fun q => okC (bt s q)) = true := List.all_eq_true.2 fun q hq => hok q (by have := List.mem_range.1 hq; omega)
    repeat (first | refine VC.seq ?_ | refine VC.block ?_ | refine VC.skip ?_)
    refine VC.region ?_
    refine VR.pure rfl rfl (p_moveZ rfl) ?_
    refine VR.pure rfl rfl (p_lenS Try.underlying9 rfl) ?_
    refine VR.pure rfl rfl (p_ge rfl rfl) ?_
    refine VR.pure rfl rfl (p_moveB rfl) ?_
    refine VR.splitD 40 rfl (fun h3 => ?_) (fun h3 => ?_)
    refine VR.pureG rfl rfl (p_moveZ rfl) ?_
    refine VR.pureG rfl rfl (p_lenS Try.underlying9 rfl) ?_
    refine VR.pureG rfl rfl (p_le rfl rfl) ?_
    refine VR.pure rfl rfl (p_pickT rfl rfl) ?_
    refine VR.pure rfl rfl (p_assignB rfl) ?_
    refine VR.nil ?_
    rotate_left 1
    refine VR.pass rfl rfl ?_
    refine VR.pass rfl rfl ?_
    refine VR.pass rfl rfl ?_
    refine VR.pure rfl rfl (p_pickF rfl rfl) ?_
    refine VR.pure rfl rfl (p_assignB rfl) ?_
    refine VR.nil ?_
    rotate_left 1
    · repeat (first | refine VC.seq ?_ | refine VC.block ?_ | refine VC.skip ?_)
      refine VC.ret ⟨_, ResOf.r1 (v := .bool _) rfl rfl, ?_⟩
      refine ⟨?_, hm⟩
      unfold nameOk
      rw [hall, decide_eq_true (show 1 ≤ s.size by omega)]
      exact congrArg Value.bool (decide_eq_decide.2 (by omega))
    · repeat (first | refine VC.seq ?_ | refine VC.block ?_ | refine VC.skip ?_)
      refine VC.ret ⟨_, ResOf.r1 (v := .bool _) rfl rfl, ?_⟩
      refine ⟨?_, hm⟩
      unfold nameOk
      rw [hall, decide_eq_false (show ¬ 1 ≤ s.size by omega)]
      rfl
/-- Where a file is. -/
def At (rs : List Rf) (s : ByteArray) (v : Int) : Prop := (∃ (i : Nat) (f : Rf), rs[i]? = some f ∧ f.name = s ∧ v = i) ∨ ((∀ f ∈ rs, f.name ≠ s) ∧ v = -1)
theorem rfind_c {A : Option Addr} {c : Nat} (hm : Mem F w Ls) (hg : F.heap g = some (rdisk room rs A c)) (hr : Row F.heap A (rs.length * 3) (rcells rs)) (hl : rs.length ≤ 1000000) :
    Calls Try.prog 63 #[.pointer (some ⟨g, 0, none⟩), .string s] w (Ret fun v w' => ∃ z, v = .int .i64 z ∧ At rs s z ∧ Mem F w' Ls) := by
  refine Calls.of_vc Try.func63 rfl Try.ntmps63 rfl ?_
  repeat (first | refine VC.seq ?_ | refine VC.block ?_ | refine VC.skip ?_)
  refine VC.region ?_
  refine VR.pure rfl rfl (p_assignI rfl) ?_
  refine VR.nil ?_
  repeat (first | refine VC.seq ?_ | refine VC.block ?_ | refine VC.skip ?_)
  refine VC.region ?_
  refine VR.pure rfl rfl (p_assignI rfl) ?_
  refine VR.nil ?_
  repeat (first | refine VC.seq ?_ | refine VC.block ?_ | refine VC.skip ?_)
  refine VC.loop (σ := Nat) (fun k => [(0, .pointer (some ⟨g, 0, none⟩)), (1, .string s), (5, .int .i64 k)]) (fun k w => Mem F w Ls ∧ k ≤ rs.length ∧ ∀ j f, j < k → rs[j]? = some f → f.name ≠ s) (fun k => rs.length - k) 0 ⟨rfl, rfl, rfl, trivial⟩ ⟨hm, by omega, by omega⟩ ?_
  clear hm
  rintro k A' w ⟨hm, hk, hno⟩
  repeat (first | refine VC.seq ?_ | refine VC.block ?_ | refine VC.skip ?_)
  refine VC.region ?_
  refine VR.pure rfl rfl (p_moveI rfl) ?_
  refine VR.pure rfl rfl (p_moveP rfl) ?_
  refine VR.pure rfl rfl (p_nilCheck rfl) ?_
  refine VR.pure rfl rfl (p_field (fo := 1) Try.underlying109 rfl Try.sizeOf107 rfl rfl rfl) ?_
  refine VR.val rfl rfl (r_load (v := .slice _ _ _) Try.isAgg107 rfl (hm.fix _ _ hg) rfl) ?_
  refine VR.pure rfl rfl (p_len Try.underlying107 rfl) ?_
  refine VR.pure rfl rfl (p_lt rfl rfl) ?_
  refine VR.nil ?_
  repeat (first | refine VC.seq ?_ | refine VC.block ?_ | refine VC.skip ?_)
  refine VC.condD rfl (fun h => ?_) (fun h => ?_)
  · have hk' : k < rs.length := by omega
    obtain ⟨f, hf, hfm⟩ := get_of (xs := rs) (k := k) hk'
    obtain ⟨b, off, blk, T, fr, rfl, hb, hc⟩ := hr.elem Rf.len (by decide) (by omega)
    repeat (first | refine VC.seq ?_ | refine VC.block ?_ | refine VC.skip ?_)
    refine VC.region ?_
    refine VR.pure rfl rfl (p_moveP rfl) ?_
    refine VR.pure rfl rfl (p_nilCheck rfl) ?_
    refine VR.pure rfl rfl (p_field (fo := 1) Try.underlying109 rfl Try.sizeOf107 rfl rfl rfl) ?_
    refine VR.val rfl rfl (r_load (v := .slice _ _ _) Try.isAgg107 rfl (hm.fix _ _ hg) rfl) ?_
    refine VR.pure rfl rfl (p_moveI rfl) ?_
    refine VR.pure rfl rfl (p_idxN Try.underlying107 Try.sizeOf112 rfl rfl hk') ?_
    refine VR.pure rfl rfl (p_field (fo := 0) Try.underlying112 rfl Try.sizeOf9 rfl rfl rfl) ?_
    refine VR.val rfl rfl (r_load (v := .string _) Try.isAgg9 rfl (hm.fix _ _ hb) (hc k f hf 0 (by decide))) ?_
    refine VR.pure rfl rfl (p_moveZ rfl) ?_
    refine VR.pure rfl rfl (p_eqS rfl rfl) ?_
    refine VR.nil ?_
    repeat (first | refine VC.seq ?_ | refine VC.block ?_ | refine VC.skip ?_)
    refine VC.condD rfl (fun h2 => ?_) (fun h2 => ?_)
    · repeat (first | refine VC.seq ?_ | refine VC.block ?_ | refine VC.skip ?_)
      refine VC.region ?_
      refine VR.pure rfl rfl (p_moveI rfl) ?_
      refine VR.pure rfl rfl (p_assignI rfl) ?_
      refine VR.nil ?_
      repeat (first | refine VC.seq ?_ | refine VC.block ?_ | refine VC.skip ?_)
      refine VC.ret ⟨_, ResOf.r1 (v := .int _ _) rfl rfl, ?_⟩
      exact ⟨_, rfl, .inl ⟨k, f, hf, str_eq.1 h2, rfl⟩, hm⟩
    · repeat (first | refine VC.seq ?_ | refine VC.block ?_ | refine VC.skip ?_)
      refine VC.region ?_
      refine VR.pure rfl rfl (p_moveI rfl) ?_
      refine VR.pure rfl rfl (p_add64 rfl rfl (by omega)) ?_
      refine VR.pure rfl rfl (p_assignI rfl) ?_
      refine VR.nil ?_
      refine ⟨k + 1, ⟨rfl, rfl, rfl, trivial⟩, ⟨hm, by omega, fun j f' hj hf' => ?_⟩, by omega⟩
      rcases Nat.lt_or_eq_of_le (Nat.le_of_lt_succ hj) with hj | rfl
      · exact hno j f' hj hf'
      · rw [hf] at hf'
        obtain rfl := Option.some.inj hf'
        exact fun e => h2 (str_eq.2 e)
  · repeat (first | refine VC.seq ?_ | refine VC.block ?_ | refine VC.skip ?_)
    refine VC.exit ?_
    repeat (first | refine VC.seq ?_ | refine VC.block ?_ | refine VC.skip ?_)
    refine VC.region ?_
    refine VR.pure rfl rfl (p_assignI rfl) ?_
    refine VR.nil ?_
    repeat (first | refine VC.seq ?_ | refine VC.block ?_ | refine VC.skip ?_)
    refine VC.ret ⟨_, ResOf.r1 (v := .int _ _) rfl rfl, ?_⟩
    refine ⟨_, rfl, .inr ⟨fun f hf => ?_, rfl⟩, hm⟩
    obtain ⟨j, hj, rfl⟩ := List.mem_iff_getElem.1 hf
    exact hno j _ (by omega) (List.getElem?_eq_getElem hj)
theorem sum_take {rs : List Rf} {k : Nat} {f : Rf} (h : rs[k]? = some f) : sumL ((rs.take (k + 1)).map Rf.abs) = sumL ((rs.take k).map Rf.abs) + f.l.length := by
  rw [List.take_add_one, h, List.map_append, sumL_app]
  show _ + ((f.l.length : Int) + 0) = _
  omega
theorem sum_small {H : Nat → Option Obj} {rs : List Rf} (h : ∀ x ∈ rs, RfOk H x) : sumL (rs.map Rf.abs) ≤ 4194304 * rs.length := by
  induction rs with
  | nil => exact Int.le_refl 0
  | cons x r ih =>
    have h1 := ih fun y hy => h y (List.mem_cons_of_mem _ hy)
    have h2 := h x (.head _)
    have h3 := h2.len
    have h4 := h2.le
    show (x.l.length : Int) + sumL (r.map Rf.abs) ≤ _
    rw [List.length_cons]
    omega
theorem rused_c {A : Option Addr} {c : Nat} (hm : Mem F w Ls) (hg : F.heap g = some (rdisk room rs A c)) (hr : Row F.heap A (rs.length * 3) (rcells rs)) (hok : ∀ x ∈ rs, RfOk F.heap x) (hl : rs.length ≤ 1000000) :
    Calls Try.prog 62 #[.pointer (some ⟨g, 0, none⟩)] w (Ret fun v w' => v = .int .i64 (sumL (rs.map Rf.abs)) ∧ Mem F w' Ls) := by
  refine Calls.of_vc Try.func62 rfl Try.ntmps62 rfl ?_
  repeat (first | refine VC.seq ?_ | refine VC.block ?_ | refine VC.skip ?_)
  refine VC.region ?_
  refine VR.pure rfl rfl (p_assignI rfl) ?_
  refine VR.nil ?_
  repeat (first | refine VC.seq ?_ | refine VC.block ?_ | refine VC.skip ?_)
  refine VC.region ?_
  refine VR.pure rfl rfl (p_assignI rfl) ?_
  refine VR.nil ?_
  repeat (first | refine VC.seq ?_ | refine VC.block ?_ | refine VC.skip ?_)
  refine VC.region ?_
  refine VR.pure rfl rfl (p_assignI rfl) ?_
  refine VR.nil ?_
  repeat (first | refine VC.seq ?_ | refine VC.block ?_ | refine VC.skip ?_)
  refine VC.loop (σ := Nat) (fun k => [(0, .pointer (some ⟨g, 0, none⟩)), (3, .int .i64 (sumL ((rs.take k).map Rf.abs))), (4, .int .i64 k)]) (fun k w => Mem F w Ls ∧ k ≤ rs.length) (fun k => rs.length - k) 0 ⟨rfl, rfl, rfl, trivial⟩ ⟨hm, by omega⟩ ?_
  clear hm
  rintro k A' w ⟨hm, hk⟩
  repeat (first | refine VC.seq ?_ | refine VC.block ?_ | refine VC.skip ?_)
  refine VC.region ?_
  refine VR.pure rfl rfl (p_moveI rfl) ?_
  refine VR.pure rfl rfl (p_moveP rfl) ?_
  refine VR.pure rfl rfl (p_nilCheck rfl) ?_
  refine VR.pure rfl rfl (p_field (fo := 1) Try.underlying109 rfl Try.sizeOf107 rfl rfl rfl) ?_
  refine VR.val rfl rfl (r_load (v := .slice _ _ _) Try.isAgg107 rfl (hm.fix _ _ hg) rfl) ?_
  refine VR.pure rfl rfl (p_len Try.underlying107 rfl) ?_
  refine VR.pure rfl rfl (p_lt rfl rfl) ?_
  refine VR.nil ?_
  repeat (first | refine VC.seq ?_ | refine VC.block ?_ | refine VC.skip ?_)
  refine VC.condD rfl (fun h => ?_) (fun h => ?_)
  · have hk' : k < rs.length := by omega
    obtain ⟨f, hf, hfm⟩ := get_of (xs := rs) (k := k) hk'
    obtain ⟨b, off, blk, T, fr, rfl, hb, hc⟩ := hr.elem Rf.len (by decide) (by omega)
    have h1 := sum_small (rs := rs.take k) fun x hx => hok x (List.mem_of_mem_take hx)
    have h2 := sumL_nonneg ((rs.take k).map Rf.abs)
    have h3 := (hok f hfm).le
    have h4 := (hok f hfm).len
    rw [List.length_take, Nat.min_eq_left hk] at h1
    repeat (first | refine VC.seq ?_ | refine VC.block ?_ | refine VC.skip ?_)
    refine VC.region ?_
    refine VR.pure rfl rfl (p_moveI rfl) ?_
    refine VR.pure rfl rfl (p_moveP rfl) ?_
    refine VR.pure rfl rfl (p_nilCheck rfl) ?_
    refine VR.pure rfl rfl (p_field (fo := 1) Try.underlying109 rfl Try.sizeOf107 rfl rfl rfl) ?_
    refine VR.val rfl rfl (r_load (v := .slice _ _ _) Try.isAgg107 rfl (hm.fix _ _ hg) rfl) ?_
    refine VR.pure rfl rfl (p_moveI rfl) ?_
    refine VR.pure rfl rfl (p_idxN Try.underlying107 Try.sizeOf112 rfl rfl hk') ?_
    refine VR.pure rfl rfl (p_field (fo := 1) Try.underlying112 rfl Try.sizeOf22 rfl rfl rfl) ?_
    refine VR.val rfl rfl (r_load (v := .slice _ _ _) Try.isAgg22 rfl (hm.fix _ _ hb) (hc k f hf 1 (by decide))) ?_
    refine VR.pure rfl rfl (p_len Try.underlying22 rfl) ?_
    refine VR.pure rfl rfl (p_add64 rfl rfl (by omega)) ?_
    refine VR.pure rfl rfl (p_assignI rfl) ?_
    refine VR.nil ?_
    repeat (first | refine VC.seq ?_ | refine VC.block ?_ | refine VC.skip ?_)
    refine VC.region ?_
    refine VR.pure rfl rfl (p_moveI rfl) ?_
    refine VR.pure rfl rfl (p_add64 rfl rfl (by omega)) ?_
    refine VR.pure rfl rfl (p_assignI rfl) ?_
    refine VR.nil ?_
    refine ⟨k + 1, ⟨rfl, ?_, rfl, trivial⟩, ⟨hm, by omega⟩, by omega⟩
    rw [sum_take hf, h4]
    rfl
  · repeat (first | refine VC.seq ?_ | refine VC.block ?_ | refine VC.skip ?_)
    refine VC.exit ?_
    repeat (first | refine VC.seq ?_ | refine VC.block ?_ | refine VC.skip ?_)
    refine VC.region ?_
    refine VR.pure rfl rfl (p_moveI rfl) ?_
    refine VR.pure rfl rfl (p_assignI rfl) ?_
    refine VR.nil ?_
    repeat (first | refine VC.seq ?_ | refine VC.block ?_ | refine VC.skip ?_)
    refine VC.ret ⟨_, ResOf.r1 (v := .int _ _) rfl rfl, ?_⟩
    have hkn : k = rs.length := by omega
    subst hkn
    rw [List.take_length]
    exact ⟨rfl, hm⟩
theorem take_names {rs : List Rf} {k : Nat} {f : Rf} (h : rs[k]? = some f) : (rs.take (k + 1)).map (·.name) = (rs.take k).map (·.name) ++ [f.name] := by
  rw [List.take_add_one, h, List.map_append]
  rfl
theorem txts_app (a b : List ByteArray) : texts (a ++ b) = texts a ++ texts b := List.map_append
theorem rlist_c {A : Option Addr} {c : Nat} (hm : Mem F w Ls) (hg : F.heap g = some (rdisk room rs A c)) (hr : Row F.heap A (rs.length * 3) (rcells rs)) (hl : rs.length ≤ 1000000) :
    Calls Try.prog 61 #[.pointer (some ⟨g, 0, none⟩)] w (Ret fun v w' => ∃ A' c' L', v = .slice A' rs.length c' ∧ OwnS 9 1 A' rs.length c' (texts (rs.map (·.name))) L' ∧ Mem F w' (L' :: Ls)) := by
  refine Calls.of_vc Try.func61 rfl Try.ntmps61 rfl ?_
  repeat (first | refine VC.seq ?_ | refine VC.block ?_ | refine VC.skip ?_)
  refine VC.region ?_
  refine VR.pure rfl rfl (p_assignL rfl) ?_
  refine VR.nil ?_
  repeat (first | refine VC.seq ?_ | refine VC.block ?_ | refine VC.skip ?_)
  refine VC.region ?_
  refine VR.pure rfl rfl (p_assignL rfl) ?_
  refine VR.nil ?_
  repeat (first | refine VC.seq ?_ | refine VC.block ?_ | refine VC.skip ?_)
  refine VC.region ?_
  refine VR.pure rfl rfl (p_assignI rfl) ?_
  refine VR.nil ?_
  repeat (first | refine VC.seq ?_ | refine VC.block ?_ | refine VC.skip ?_)
  refine VC.loop (σ := Nat × Option Addr × Nat × Blks) (fun s => [(0, .pointer (some ⟨g, 0, none⟩)), (3, .slice s.2.1 s.1 s.2.2.1), (4, .int .i64 s.1)])
    (fun s w => s.1 ≤ rs.length ∧ OwnS 9 1 s.2.1 s.1 s.2.2.1 (texts ((rs.take s.1).map (·.name))) s.2.2.2 ∧ Mem F w (s.2.2.2 :: Ls)) (fun s => rs.length - s.1) (0, none, 0, []) ⟨rfl, rfl, rfl, trivial⟩ ⟨by omega, OwnS.nil _ _, hm.nil_⟩ ?_
  clear hm
  rintro ⟨k, A1, c1, L1⟩ A' w ⟨hk, ho, hm⟩
  dsimp only at hk ho hm ⊢
  repeat (first | refine VC.seq ?_ | refine VC.block ?_ | refine VC.skip ?_)
  refine VC.region ?_
  refine VR.pure rfl rfl (p_moveI rfl) ?_
  refine VR.pure rfl rfl (p_moveP rfl) ?_
  refine VR.pure rfl rfl (p_nilCheck rfl) ?_
  refine VR.pure rfl rfl (p_field (fo := 1) Try.underlying109 rfl Try.sizeOf107 rfl rfl rfl) ?_
  refine VR.val rfl rfl (r_load (v := .slice _ _ _) Try.isAgg107 rfl (hm.fix _ _ hg) rfl) ?_
  refine VR.pure rfl rfl (p_len Try.underlying107 rfl) ?_
  refine VR.pure rfl rfl (p_lt rfl rfl) ?_
  refine VR.nil ?_
  repeat (first | refine VC.seq ?_ | refine VC.block ?_ | refine VC.skip ?_)
  refine VC.condD rfl (fun h => ?_) (fun h => ?_)
  · have hk' : k < rs.length := by omega
    obtain ⟨f, hf, hfm⟩ := get_of (xs := rs) (k := k) hk'
    obtain ⟨b, off, blk, T, fr, rfl, hb, hc⟩ := hr.elem Rf.len (by decide) (by omega)
    repeat (first | refine VC.seq ?_ | refine VC.block ?_ | refine VC.skip ?_)
    refine VC.region ?_
    refine VR.pure rfl rfl (p_moveL rfl) ?_
    refine VR.pure rfl rfl (p_moveP rfl) ?_
    refine VR.pure rfl rfl (p_nilCheck rfl) ?_
    refine VR.pure rfl rfl (p_field (fo := 1) Try.underlying109 rfl Try.sizeOf107 rfl rfl rfl) ?_
    refine VR.val rfl rfl (r_load (v := .slice _ _ _) Try.isAgg107 rfl (hm.fix _ _ hg) rfl) ?_
    refine VR.pure rfl rfl (p_moveI rfl) ?_
    refine VR.pure rfl rfl (p_idxN Try.underlying107 Try.sizeOf112 rfl rfl hk') ?_
    refine VR.pure rfl rfl (p_field (fo := 0) Try.underlying112 rfl Try.sizeOf9 rfl rfl rfl) ?_
    refine VR.val rfl rfl (r_load (v := .string _) Try.isAgg9 rfl (hm.fix _ _ hb) (hc k f hf 0 (by decide))) ?_
    refine VR.new hm rfl rfl (n_buildSlice1 (vs := [.string _]) Try.underlying36 inf9 rfl rfl rfl rfl rfl rfl rfl) ?_
    intro b9 w hm
    replace hm := hm.swap
    refine VR.append (s := 1) (bytes := 16) Try.underlying36 inf9 rfl rfl rfl rfl rfl rfl rfl rfl rfl hm ho (Row.lit (cs := texts [f.name]) (hm.at_ 1 0 rfl)) (texts_one [f.name]) rfl ⟨by unfold maxLen; omega, by omega⟩ ?_
    intro A3 c3 w L3 ho3 hm
    refine VR.pure rfl rfl (p_assignL rfl) ?_
    refine VR.nil ?_
    repeat (first | refine VC.seq ?_ | refine VC.block ?_ | refine VC.skip ?_)
    refine VC.region ?_
    refine VR.pure rfl rfl (p_moveI rfl) ?_
    refine VR.pure rfl rfl (p_add64 rfl rfl (by omega)) ?_
    refine VR.pure rfl rfl (p_assignI rfl) ?_
    refine VR.nil ?_
    refine ⟨(k + 1, A3, c3, L3), ⟨rfl, rfl, rfl, trivial⟩, ⟨by omega, ?_, hm.pop2⟩, by omega⟩
    rw [take_names hf, txts_app]
    exact ho3
  · repeat (first | refine VC.seq ?_ | refine VC.block ?_ | refine VC.skip ?_)
    refine VC.exit ?_
    repeat (first | refine VC.seq ?_ | refine VC.block ?_ | refine VC.skip ?_)
    refine VC.region ?_
    refine VR.pure rfl rfl (p_moveL rfl) ?_
    refine VR.pure rfl rfl (p_assignL rfl) ?_
    refine VR.nil ?_
    repeat (first | refine VC.seq ?_ | refine VC.block ?_ | refine VC.skip ?_)
    refine VC.ret ⟨_, ResOf.r1 (v := .slice _ _ _) rfl rfl, ?_⟩
    have hkn : k = rs.length := by omega
    subst hkn
    rw [List.take_length] at ho
    exact ⟨A1, c1, L1, rfl, ho, hm⟩
end
end Go.Bd
