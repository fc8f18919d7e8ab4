/- Contracts of layer 22: calls (with calls within them) held against each other, lent, kept, written over. Conditions: as each states. -/
import Derived.Test.Ytinddgigjecofaa22n
namespace Go.Bd
open Go.Proofs
set_option linter.unusedVariables false
set_option maxRecDepth 20000

/-- A call: what of it is data; how it lies; what is within it. -/
structure Ac where
  kind : Int
  xid : Int
  session : Int
  turn : Int
  path : ByteArray
  dn : Nat
  d : List Int
  flags : Int
  version : Int
  watch : Bool
  sort : Int
  last : Int
  timeout : Int
  from_ : Int
  mn : Nat
  ms : List Mb
  pn : Nat
structure Ah where
  c : Ac
  dA : Option Addr
  dc : Nat
  mA : Option Addr
  mc : Nat
  pA : Option Addr
  pc : Nat
inductive Ak where
  | mk (h : Ah) (ps : List Ak)
abbrev Ak.h : Ak → Ah
  | .mk h _ => h
abbrev Ah.cs (h : Ah) : List Value := [.int .u8 h.c.kind, .int .i64 h.c.xid, .int .i64 h.c.session, .int .i64 h.c.turn, .string h.c.path, .slice h.dA h.c.dn h.dc, .int .i64 h.c.flags, .int .i64 h.c.version, .bool h.c.watch, .int .u8 h.c.sort,
  .int .i64 h.c.last, .int .i64 h.c.timeout, .int .i64 h.c.from_, .slice h.mA h.c.mn h.mc, .slice h.pA h.c.pn h.pc]
abbrev Ah.arr (h : Ah) : Array Value := #[.int .u8 h.c.kind, .int .i64 h.c.xid, .int .i64 h.c.session, .int .i64 h.c.turn, .string h.c.path, .slice h.dA h.c.dn h.dc, .int .i64 h.c.flags, .int .i64 h.c.version, .bool h.c.watch, .int .u8 h.c.sort,
  .int .i64 h.c.last, .int .i64 h.c.timeout, .int .i64 h.c.from_, .slice h.mA h.c.mn h.mc, .slice h.pA h.c.pn h.pc]
def Ak.cells (a : Ak) : List Value := a.h.cs
theorem Ak.len (a : Ak) : a.cells.length = 15 := rfl
abbrev acells (ps : List Ak) : List Value := ps.flatMap Ak.cells
theorem acells_app (a b : List Ak) : acells (a ++ b) = acells a ++ acells b := by
  show (a ++ b).flatMap Ak.cells = a.flatMap Ak.cells ++ b.flatMap Ak.cells
  rw [List.flatMap_append]
theorem acells_one (ws : List Ak) : ∀ u ∈ acells ws, u.oneCell' = true := by
  intro u hu
  obtain ⟨m, _, hm⟩ := List.mem_flatMap.1 hu
  simp only [Ak.cells, Ah.cs, List.mem_cons, List.not_mem_nil, or_false] at hm
  rcases hm with rfl | rfl | rfl | rfl | rfl | rfl | rfl | rfl | rfl | rfl | rfl | rfl | rfl | rfl | rfl <;> rfl

def Small (c : Ac) : Prop := c.dn ≤ 140737488355328 ∧ c.mn * 32 ≤ 140737488355328 ∧ c.pn * 168 ≤ 140737488355328
def Tree (H : Nat → Option Obj) : Nat → Ak → Prop
  | 0, _ => False
  | k + 1, .mk h ps => Small h.c ∧ BRow H h.dA h.c.dn h.c.d ∧ MRow H h.mA h.c.mn h.c.ms ∧ Row H h.pA (h.c.pn * 15) (acells ps) ∧ ∀ p ∈ ps, Tree H k p
def SameA : Nat → Ak → Ak → Prop
  | 0, _, _ => False
  | k + 1, .mk h ps, .mk h' ps' => h.c = h'.c ∧ ∀ (i : Nat) (p p' : Ak), ps[i]? = some p → ps'[i]? = some p' → SameA k p p'
theorem Tree.mono {H H' : Nat → Option Obj} (hle : ∀ b o, H b = some o → H' b = some o) : ∀ (k : Nat) (a : Ak), Tree H k a → Tree H' k a
  | 0, _, h => h
  | k + 1, .mk h ps, ⟨h1, h2, h3, h4, h5⟩ => ⟨h1, h2.mono hle, h3.mono hle, h4.mono hle, fun p hp => Tree.mono hle k p (h5 p hp)⟩
theorem acells_len {H : Nat → Option Obj} {A : Option Addr} {n : Nat} {ps : List Ak} (h : Row H A (n * 15) (acells ps)) : ps.length = n := by
  have := h.len
  rw [flat_len Ak.len] at this
  omega

def SameOk (k : Nat) : Prop := ∀ (F : Env) (w : World) (Ls : List Blks) (x y : Ak), Mem F w Ls → Tree F.heap k x → Tree F.heap k y → SameA k x y →
  Calls Try.prog 36 #[.agg x.h.arr, .agg y.h.arr] w (Ret fun v w' => v = .bool true ∧ Mem F w' Ls)

theorem same_asks_c {j : Nat} (ih : SameOk j) {F : Env} {w : World} {Ls : List Blks} {A B : Option Addr} {n c d : Nat} {xs ys : List Ak} (hm : Mem F w Ls) (hn : n * 168 ≤ 140737488355328)
    (hr : Row F.heap A (n * 15) (acells xs)) (hs : Row F.heap B (n * 15) (acells ys)) (hx : ∀ p ∈ xs, Tree F.heap j p) (hy : ∀ p ∈ ys, Tree F.heap j p) (hq : ∀ (i : Nat) (p p' : Ak), xs[i]? = some p → ys[i]? = some p' → SameA j p p') :
    Calls Try.prog 54 #[.slice A n c, .slice B n d] w (Ret fun v w' => v = .bool true ∧ Mem F w' Ls) := by
  have hl := acells_len hr
  have hl2 := acells_len hs
  refine Calls.of_vc Try.func54 rfl Try.ntmps54 rfl ?_
  repeat (first | refine VC.seq ?_ | refine VC.block ?_ | refine VC.skip ?_)
  refine VC.region ?_
  refine VR.pure rfl rfl (p_assignB rfl) ?_
  refine VR.nil ?_
  repeat (first | refine VC.seq ?_ | refine VC.block ?_ | refine VC.skip ?_)
  refine VC.region ?_
  refine VR.pure rfl rfl (p_moveL rfl) ?_
  refine VR.pure rfl rfl (p_len Try.underlying29 rfl) ?_
  refine VR.pure rfl rfl (p_moveL rfl) ?_
  refine VR.pure rfl rfl (p_len Try.underlying29 rfl) ?_
  refine VR.pure rfl rfl (p_ne rfl rfl) ?_
  refine VR.nil ?_
  repeat (first | refine VC.seq ?_ | refine VC.block ?_ | refine VC.skip ?_)
  refine VC.condF rfl (decide_eq_false (not_not_intro rfl)) ?_
  repeat (first | refine VC.seq ?_ | refine VC.block ?_ | refine VC.skip ?_)
  refine VC.region ?_
  refine VR.pure rfl rfl (p_assignI rfl) ?_
  refine VR.nil ?_
  repeat (first | refine VC.seq ?_ | refine VC.block ?_ | refine VC.skip ?_)
  refine VC.loop (σ := Nat) (fun k => [(0, .slice A n c), (1, .slice B n d), (5, .int .i64 k)]) (fun k w => Mem F w Ls ∧ k ≤ n) (fun k => n - k) 0 ⟨rfl, rfl, rfl, trivial⟩ ⟨hm, by omega⟩ ?_
  clear hm
  rintro k A' w ⟨hm, hk⟩
  repeat (first | refine VC.seq ?_ | refine VC.block ?_ | refine VC.skip ?_)
  refine VC.region ?_
  refine VR.pure rfl rfl (p_moveI rfl) ?_
  refine VR.pure rfl rfl (p_moveL rfl) ?_
  refine VR.pure rfl rfl (p_len Try.underlying29 rfl) ?_
  refine VR.pure rfl rfl (p_lt rfl rfl) ?_
  refine VR.nil ?_
  repeat (first | refine VC.seq ?_ | refine VC.block ?_ | refine VC.skip ?_)
  refine VC.condD rfl (fun h => ?_) (fun h => ?_)
  · have hk' : k < n := by omega
    obtain ⟨x, hxk, hxm⟩ := get_of (xs := xs) (k := k) (by omega)
    obtain ⟨y, hyk, hym⟩ := get_of (xs := ys) (k := k) (by omega)
    obtain ⟨b, off, blk, T, fr, hA, hb, hc⟩ := Row.elem Ak.len hr (by decide) (by omega)
    obtain ⟨b2, off2, blk2, T2, fr2, hB, hb2, hc2⟩ := Row.elem Ak.len hs (by decide) (by omega)
    rw [hA, hB]
    repeat (first | refine VC.seq ?_ | refine VC.block ?_ | refine VC.skip ?_)
    refine VC.loud (Kept F []) [8] rfl (by kernel_rfl) (Kept.of0 hm.drew) ?_
    replace hm := hm.drew
    refine VL.pure rfl rfl rfl (p_moveL rfl) ?_
    refine VL.pure rfl rfl rfl (p_moveI rfl) ?_
    refine VL.pure rfl rfl rfl (p_idxN Try.underlying29 Try.sizeOf31 rfl rfl hk') ?_
    refine VL.read rfl rfl rfl (fun w' hw' => r_loadAgg (vs := x.h.cs) Try.isAgg31 Try.sizeOf31 rfl (hw'.fix _ _ hb) rfl (hc k x hxk)) ?_
    refine VL.pure rfl rfl rfl (p_moveL rfl) ?_
    refine VL.pure rfl rfl rfl (p_moveI rfl) ?_
    refine VL.pure rfl rfl rfl (p_idxN Try.underlying29 Try.sizeOf31 rfl rfl hk') ?_
    refine VL.read rfl rfl rfl (fun w' hw' => r_loadAgg (vs := y.h.cs) Try.isAgg31 Try.sizeOf31 rfl (hw'.fix _ _ hb2) rfl (hc2 k y hyk)) ?_
    refine VL.call rfl rfl rfl (r_call2 Try.call36 rfl rfl) (ih _ _ _ _ _ hm (hx x hxm) (hy y hym) (hq k x y hxk hyk)) ?_
    rintro _ w ⟨rfl, hm⟩
    refine ⟨Kept.of0 hm, ?_⟩
    refine VL.pure rfl rfl rfl (p_not rfl) ?_
    refine VL.nil ?_
    repeat (first | refine VC.seq ?_ | refine VC.block ?_ | refine VC.skip ?_)
    refine VC.condF rfl rfl ?_
    repeat (first | refine VC.seq ?_ | refine VC.block ?_ | refine VC.skip ?_)
    refine VC.region ?_
    refine VR.pure rfl rfl (p_moveI rfl) ?_
    refine VR.pure rfl rfl (p_add64 rfl rfl (by omega)) ?_
    refine VR.pure rfl rfl (p_assignI rfl) ?_
    refine VR.nil ?_
    exact ⟨k + 1, ⟨rfl, rfl, rfl, trivial⟩, ⟨hm, by omega⟩, by omega⟩
  · repeat (first | refine VC.seq ?_ | refine VC.block ?_ | refine VC.skip ?_)
    refine VC.exit ?_
    repeat (first | refine VC.seq ?_ | refine VC.block ?_ | refine VC.skip ?_)
    refine VC.region ?_
    refine VR.pure rfl rfl (p_assignB rfl) ?_
    refine VR.nil ?_
    repeat (first | refine VC.seq ?_ | refine VC.block ?_ | refine VC.skip ?_)
    refine VC.ret ⟨_, ResOf.r1 (v := .bool _) rfl rfl, ?_⟩
    exact ⟨rfl, hm⟩

set_option maxHeartbeats 4000000 in
theorem same_ask_c : ∀ k, SameOk k
  | 0 => fun _ _ _ _ _ _ h => False.elim h
  | k + 1 => by
    intro F w Ls x y hm hx hy hs
    obtain ⟨h, ps⟩ := x
    obtain ⟨h', ps'⟩ := y
    obtain ⟨hsm, hd, hmm, hp, ht⟩ := hx
    obtain ⟨_, hd', hmm', hp', ht'⟩ := hy
    obtain ⟨hc, hq⟩ := hs
    obtain ⟨c, dA, dc, mA, mc, pA, pc⟩ := h
    obtain ⟨c', dA', dc', mA', mc', pA', pc'⟩ := h'
    obtain rfl : c = c' := hc
    obtain ⟨hs1, hs2, hs3⟩ := hsm
    dsimp only at hs1 hs2 hs3 hd hmm hp hd' hmm' hp' ⊢
    refine Calls.of_vc Try.func36 rfl Try.ntmps36 rfl ?_
    repeat (first | refine VC.seq ?_ | refine VC.block ?_ | refine VC.skip ?_)
    refine VC.region ?_
    refine VR.new hm rfl rfl (n_boxG rfl) ?_
    intro b2 w hm
    refine VR.new hm rfl rfl (n_boxG rfl) ?_
    intro b3 w hm
    refine VR.pure rfl rfl (p_assignB rfl) ?_
    refine VR.nil ?_
    repeat (first | refine VC.seq ?_ | refine VC.block ?_ | refine VC.skip ?_)
    refine VC.region ?_
    refine VR.pure rfl rfl (p_field (fo := 0) Try.underlying31 rfl Try.sizeOf26 rfl rfl rfl) ?_
    refine VR.val rfl rfl (r_load (v := .int _ _) Try.isAgg26 rfl (hm.at_ 1 0 rfl) rfl) ?_
    refine VR.pure rfl rfl (p_field (fo := 0) Try.underlying31 rfl Try.sizeOf26 rfl rfl rfl) ?_
    refine VR.val rfl rfl (r_load (v := .int _ _) Try.isAgg26 rfl (hm.at_ 0 0 rfl) rfl) ?_
    refine VR.pure rfl rfl (p_eq rfl rfl) ?_
    refine VR.pure rfl rfl (p_moveB rfl) ?_
    refine VR.knownT 10 rfl (decide_eq_true rfl) ?_
    refine VR.pureG rfl rfl (p_field (fo := 1) Try.underlying31 rfl Try.sizeOf3 rfl rfl rfl) ?_
    refine VR.valG rfl rfl (r_load (v := .int _ _) Try.isAgg3 rfl (hm.at_ 1 0 rfl) rfl) ?_
    refine VR.pureG rfl rfl (p_field (fo := 1) Try.underlying31 rfl Try.sizeOf3 rfl rfl rfl) ?_
    refine VR.valG rfl rfl (r_load (v := .int _ _) Try.isAgg3 rfl (hm.at_ 0 0 rfl) rfl) ?_
    refine VR.pureG rfl rfl (p_eq rfl rfl) ?_
    refine VR.pure rfl rfl (p_pickT rfl rfl) ?_
    refine VR.pure rfl rfl (p_moveB rfl) ?_
    refine VR.knownT 17 rfl (decide_eq_true rfl) ?_
    refine VR.pureG rfl rfl (p_field (fo := 2) Try.underlying31 rfl Try.sizeOf2 rfl rfl rfl) ?_
    refine VR.valG rfl rfl (r_load (v := .int _ _) Try.isAgg2 rfl (hm.at_ 1 0 rfl) rfl) ?_
    refine VR.pureG rfl rfl (p_field (fo := 2) Try.underlying31 rfl Try.sizeOf2 rfl rfl rfl) ?_
    refine VR.valG rfl rfl (r_load (v := .int _ _) Try.isAgg2 rfl (hm.at_ 0 0 rfl) rfl) ?_
    refine VR.pureG rfl rfl (p_eq rfl rfl) ?_
    refine VR.pure rfl rfl (p_pickT rfl rfl) ?_
    refine VR.pure rfl rfl (p_moveB rfl) ?_
    refine VR.knownT 24 rfl (decide_eq_true rfl) ?_
    refine VR.pureG rfl rfl (p_field (fo := 3) Try.underlying31 rfl Try.sizeOf3 rfl rfl rfl) ?_
    refine VR.valG rfl rfl (r_load (v := .int _ _) Try.isAgg3 rfl (hm.at_ 1 0 rfl) rfl) ?_
    refine VR.pureG rfl rfl (p_field (fo := 3) Try.underlying31 rfl Try.sizeOf3 rfl rfl rfl) ?_
    refine VR.valG rfl rfl (r_load (v := .int _ _) Try.isAgg3 rfl (hm.at_ 0 0 rfl) rfl) ?_
    refine VR.pureG rfl rfl (p_eq rfl rfl) ?_
    refine VR.pure rfl rfl (p_pickT rfl rfl) ?_
    refine VR.pure rfl rfl (p_moveB rfl) ?_
    refine VR.knownT 31 rfl (decide_eq_true rfl) ?_
    refine VR.pureG rfl rfl (p_field (fo := 4) Try.underlying31 rfl Try.sizeOf9 rfl rfl rfl) ?_
    refine VR.valG rfl rfl (r_load (v := .string _) Try.isAgg9 rfl (hm.at_ 1 0 rfl) rfl) ?_
    refine VR.pureG rfl rfl (p_field (fo := 4) Try.underlying31 rfl Try.sizeOf9 rfl rfl rfl) ?_
    refine VR.valG rfl rfl (r_load (v := .string _) Try.isAgg9 rfl (hm.at_ 0 0 rfl) rfl) ?_
    refine VR.pureG rfl rfl (p_eqS rfl rfl) ?_
    refine VR.pure rfl rfl (p_pickT rfl rfl) ?_
    refine VR.pure rfl rfl (p_moveB rfl) ?_
    refine VR.knownT 38 rfl (decide_eq_true rfl) ?_
    refine VR.pureG rfl rfl (p_field (fo := 5) Try.underlying31 rfl Try.sizeOf27 rfl rfl rfl) ?_
    refine VR.valG rfl rfl (r_load (v := .slice _ _ _) Try.isAgg27 rfl (hm.at_ 1 0 rfl) rfl) ?_
    refine VR.pureG rfl rfl (p_field (fo := 5) Try.underlying31 rfl Try.sizeOf27 rfl rfl rfl) ?_
    refine VR.valG rfl rfl (r_load (v := .slice _ _ _) Try.isAgg27 rfl (hm.at_ 0 0 rfl) rfl) ?_
    refine VR.callG rfl rfl (r_call2 Try.call53 rfl rfl) (same_bytes_c (n := c.dn) hm (by unfold maxLen; omega) hd hd') ?_
    rintro _ w ⟨rfl, hm⟩
    refine VR.pure rfl rfl (p_pickT rfl rfl) ?_
    refine VR.pure rfl rfl (p_moveB rfl) ?_
    refine VR.knownT 45 rfl (decide_eq_true rfl) ?_
    refine VR.pureG rfl rfl (p_field (fo := 6) Try.underlying31 rfl Try.sizeOf3 rfl rfl rfl) ?_
    refine VR.valG rfl rfl (r_load (v := .int _ _) Try.isAgg3 rfl (hm.at_ 1 0 rfl) rfl) ?_
    refine VR.pureG rfl rfl (p_field (fo := 6) Try.underlying31 rfl Try.sizeOf3 rfl rfl rfl) ?_
    refine VR.valG rfl rfl (r_load (v := .int _ _) Try.isAgg3 rfl (hm.at_ 0 0 rfl) rfl) ?_
    refine VR.pureG rfl rfl (p_eq rfl rfl) ?_
    refine VR.pure rfl rfl (p_pickT rfl rfl) ?_
    refine VR.pure rfl rfl (p_moveB rfl) ?_
    refine VR.knownT 52 rfl (decide_eq_true rfl) ?_
    refine VR.pureG rfl rfl (p_field (fo := 7) Try.underlying31 rfl Try.sizeOf3 rfl rfl rfl) ?_
    refine VR.valG rfl rfl (r_load (v := .int _ _) Try.isAgg3 rfl (hm.at_ 1 0 rfl) rfl) ?_
    refine VR.pureG rfl rfl (p_field (fo := 7) Try.underlying31 rfl Try.sizeOf3 rfl rfl rfl) ?_
    refine VR.valG rfl rfl (r_load (v := .int _ _) Try.isAgg3 rfl (hm.at_ 0 0 rfl) rfl) ?_
    refine VR.pureG rfl rfl (p_eq rfl rfl) ?_
    refine VR.pure rfl rfl (p_pickT rfl rfl) ?_
    refine VR.pure rfl rfl (p_moveB rfl) ?_
    refine VR.knownT 59 rfl (decide_eq_true rfl) ?_
    refine VR.pureG rfl rfl (p_field (fo := 8) Try.underlying31 rfl Try.sizeOf4 rfl rfl rfl) ?_
    refine VR.valG rfl rfl (r_load (v := .bool _) Try.isAgg4 rfl (hm.at_ 1 0 rfl) rfl) ?_
    refine VR.pureG rfl rfl (p_field (fo := 8) Try.underlying31 rfl Try.sizeOf4 rfl rfl rfl) ?_
    refine VR.valG rfl rfl (r_load (v := .bool _) Try.isAgg4 rfl (hm.at_ 0 0 rfl) rfl) ?_
    refine VR.pureG rfl rfl (p_eqB Try.underlying4 rfl rfl) ?_
    refine VR.pure rfl rfl (p_pickT rfl rfl) ?_
    refine VR.pure rfl rfl (p_moveB rfl) ?_
    refine VR.knownT 66 rfl (beq_self_eq_true c.watch) ?_
    refine VR.pureG rfl rfl (p_field (fo := 9) Try.underlying31 rfl Try.sizeOf28 rfl rfl rfl) ?_
    refine VR.valG rfl rfl (r_load (v := .int _ _) Try.isAgg28 rfl (hm.at_ 1 0 rfl) rfl) ?_
    refine VR.pureG rfl rfl (p_field (fo := 9) Try.underlying31 rfl Try.sizeOf28 rfl rfl rfl) ?_
    refine VR.valG rfl rfl (r_load (v := .int _ _) Try.isAgg28 rfl (hm.at_ 0 0 rfl) rfl) ?_
    refine VR.pureG rfl rfl (p_eq rfl rfl) ?_
    refine VR.pure rfl rfl (p_pickT rfl rfl) ?_
    refine VR.pure rfl rfl (p_moveB rfl) ?_
    refine VR.knownT 73 rfl (decide_eq_true rfl) ?_
    refine VR.pureG rfl rfl (p_field (fo := 10) Try.underlying31 rfl Try.sizeOf22 rfl rfl rfl) ?_
    refine VR.valG rfl rfl (r_load (v := .int _ _) Try.isAgg22 rfl (hm.at_ 1 0 rfl) rfl) ?_
    refine VR.pureG rfl rfl (p_field (fo := 10) Try.underlying31 rfl Try.sizeOf22 rfl rfl rfl) ?_
    refine VR.valG rfl rfl (r_load (v := .int _ _) Try.isAgg22 rfl (hm.at_ 0 0 rfl) rfl) ?_
    refine VR.pureG rfl rfl (p_eq rfl rfl) ?_
    refine VR.pure rfl rfl (p_pickT rfl rfl) ?_
    refine VR.pure rfl rfl (p_moveB rfl) ?_
    refine VR.knownT 80 rfl (decide_eq_true rfl) ?_
    refine VR.pureG rfl rfl (p_field (fo := 11) Try.underlying31 rfl Try.sizeOf3 rfl rfl rfl) ?_
    refine VR.valG rfl rfl (r_load (v := .int _ _) Try.isAgg3 rfl (hm.at_ 1 0 rfl) rfl) ?_
    refine VR.pureG rfl rfl (p_field (fo := 11) Try.underlying31 rfl Try.sizeOf3 rfl rfl rfl) ?_
    refine VR.valG rfl rfl (r_load (v := .int _ _) Try.isAgg3 rfl (hm.at_ 0 0 rfl) rfl) ?_
    refine VR.pureG rfl rfl (p_eq rfl rfl) ?_
    refine VR.pure rfl rfl (p_pickT rfl rfl) ?_
    refine VR.pure rfl rfl (p_moveB rfl) ?_
    refine VR.knownT 87 rfl (decide_eq_true rfl) ?_
    refine VR.pureG rfl rfl (p_field (fo := 12) Try.underlying31 rfl Try.sizeOf22 rfl rfl rfl) ?_
    refine VR.valG rfl rfl (r_load (v := .int _ _) Try.isAgg22 rfl (hm.at_ 1 0 rfl) rfl) ?_
    refine VR.pureG rfl rfl (p_field (fo := 12) Try.underlying31 rfl Try.sizeOf22 rfl rfl rfl) ?_
    refine VR.valG rfl rfl (r_load (v := .int _ _) Try.isAgg22 rfl (hm.at_ 0 0 rfl) rfl) ?_
    refine VR.pureG rfl rfl (p_eq rfl rfl) ?_
    refine VR.pure rfl rfl (p_pickT rfl rfl) ?_
    refine VR.pure rfl rfl (p_moveB rfl) ?_
    refine VR.knownT 94 rfl (decide_eq_true rfl) ?_
    refine VR.pureG rfl rfl (p_field (fo := 13) Try.underlying31 rfl Try.sizeOf23 rfl rfl rfl) ?_
    refine VR.valG rfl rfl (r_load (v := .slice _ _ _) Try.isAgg23 rfl (hm.at_ 1 0 rfl) rfl) ?_
    refine VR.pureG rfl rfl (p_field (fo := 13) Try.underlying31 rfl Try.sizeOf23 rfl rfl rfl) ?_
    refine VR.valG rfl rfl (r_load (v := .slice _ _ _) Try.isAgg23 rfl (hm.at_ 0 0 rfl) rfl) ?_
    refine VR.callG rfl rfl (r_call2 Try.call43 rfl rfl) (same_members_c (n := c.mn) hm (by unfold maxLen; omega) hmm hmm') ?_
    rintro _ w ⟨rfl, hm⟩
    refine VR.pure rfl rfl (p_pickT rfl rfl) ?_
    refine VR.pure rfl rfl (p_moveB rfl) ?_
    refine VR.knownT 101 rfl (decide_eq_true rfl) ?_
    refine VR.pureG rfl rfl (p_field (fo := 14) Try.underlying31 rfl Try.sizeOf29 rfl rfl rfl) ?_
    refine VR.valG rfl rfl (r_load (v := .slice _ _ _) Try.isAgg29 rfl (hm.at_ 1 0 rfl) rfl) ?_
    refine VR.pureG rfl rfl (p_field (fo := 14) Try.underlying31 rfl Try.sizeOf29 rfl rfl rfl) ?_
    refine VR.valG rfl rfl (r_load (v := .slice _ _ _) Try.isAgg29 rfl (hm.at_ 0 0 rfl) rfl) ?_
    refine VR.callG rfl rfl (r_call2 Try.call54 rfl rfl) (same_asks_c (same_ask_c k) hm hs3 hp hp' ht ht' hq) ?_
    rintro _ w ⟨rfl, hm⟩
    refine VR.pure rfl rfl (p_pickT rfl rfl) ?_
    refine VR.pure rfl rfl (p_assignB rfl) ?_
    refine VR.nil ?_
    repeat (first | refine VC.seq ?_ | refine VC.block ?_ | refine VC.skip ?_)
    refine VC.ret ⟨_, ResOf.r1 (v := .bool _) rfl rfl, ?_⟩
    exact ⟨rfl, hm.pop.pop⟩

theorem lay_from : ∀ (vs : List Value) (cs : Array Value) (i : Nat), i + vs.length = cs.size → (lay cs i vs).toList = cs.toList.take i ++ vs
  | [], cs, i, h => by
    show cs.toList = _
    rw [List.append_nil, List.take_of_length_le (by simpa using Nat.le_of_eq h.symm)]
  | v :: r, cs, i, h => by
    have h' : i + (r.length + 1) = cs.size := h
    show (lay (cs.setIfInBounds i v) (i + 1) r).toList = _
    rw [lay_from r _ (i + 1) (by rw [Array.size_setIfInBounds]; omega), Array.toList_setIfInBounds, List.take_add_one, List.getElem?_set_self (by simp; omega)]
    simp [List.take_set_of_le]
theorem lay_all {cs : Array Value} {vs : List Value} (h : vs.length = cs.size) : lay cs 0 vs = vs.toArray := by
  have h1 := lay_from vs cs 0 (by omega)
  rw [List.take_zero, List.nil_append] at h1
  exact congrArg List.toArray h1
theorem markAsk_c {F : Env} {w : World} {Ls : List Blks} {k i : Int} (hm : Mem F w Ls) (h : 0 ≤ k ∧ k ≤ 1099511627776 ∧ 0 ≤ i ∧ i ≤ 1125899906842624) :
    Calls Try.prog 52 #[.int .i64 k, .int .i64 i] w (Ret fun v w' => v = .agg #[.int .u8 0, .int .i64 (1000003 * (k + 7) + i), .int .i64 0, .int .i64 0, .string ⟨#[]⟩, .slice none 0 0, .int .i64 0, .int .i64 0, .bool false, .int .u8 0, .int .i64 0, .int .i64 0, .int .i64 0, .slice none 0 0, .slice none 0 0] ∧ Mem F w' Ls) := by
  refine Calls.of_vc Try.func52 rfl Try.ntmps52 rfl ?_
  repeat (first | refine VC.seq ?_ | refine VC.block ?_ | refine VC.skip ?_)
  refine VC.region ?_
  refine VR.new hm rfl rfl (n_allocG Try.zeroValue31) ?_
  intro b4 w hm
  refine VR.nil ?_
  repeat (first | refine VC.seq ?_ | refine VC.block ?_ | refine VC.skip ?_)
  refine VC.region ?_
  refine VR.pure rfl rfl (p_moveI rfl) ?_
  refine VR.pure rfl rfl (p_moveI rfl) ?_
  refine VR.call rfl rfl (r_call2 Try.call77 rfl rfl) (mark_c h) ?_
  rintro _ _ ⟨rfl, rfl⟩
  refine VR.pure rfl rfl (p_build (vs := [(1, .int _ _)]) bld31_1 rfl) ?_
  refine VR.store (cs' := #[.int .u8 0, .int .i64 (1000003 * (k + 7) + i), .int .i64 0, .int .i64 0, .string ⟨#[]⟩, .slice none 0 0, .int .i64 0, .int .i64 0, .bool false, .int .u8 0, .int .i64 0, .int .i64 0, .int .i64 0, .slice none 0 0, .slice none 0 0]) (v := .agg _) Try.sizeOf31 rfl rfl rfl rfl rfl hm 0 0 rfl (Nat.ble_eq.mp rfl) (lay_all rfl) ?_
  intro w hm
  refine VR.nil ?_
  repeat (first | refine VC.seq ?_ | refine VC.block ?_ | refine VC.skip ?_)
  refine VC.ret ⟨_, ResOf.r1 (v := .agg _) rfl ⟨_, rfl, run_loadVarAgg Try.isAgg31 Try.sizeOf31 (hm.at_ 0 0 rfl) (vs := [.int .u8 0, .int .i64 (1000003 * (k + 7) + i), .int .i64 0, .int .i64 0, .string ⟨#[]⟩, .slice none 0 0, .int .i64 0, .int .i64 0, .bool false, .int .u8 0, .int .i64 0, .int .i64 0, .int .i64 0, .slice none 0 0, .slice none 0 0]) rfl (agg_at rfl)⟩, ?_⟩
  exact ⟨rfl, hm.pop⟩
def mka (k i : Nat) : Ak := .mk ⟨⟨0, mark1 k i, 0, 0, ⟨#[]⟩, 0, [], 0, 0, false, 0, 0, 0, 0, 0, [], 0⟩, none, 0, none, 0, none, 0⟩ []
def marksA (n : Nat) : List Ak := (List.range n).map fun i : Nat => mka 1 i
theorem marksA_len (n : Nat) : (marksA n).length = n := by simp [marksA]
theorem marksA_succ (n : Nat) : marksA (n + 1) = marksA n ++ [mka 1 n] := by simp [marksA, List.range_succ]
theorem marksA_at {n i : Nat} (h : i < n) : (marksA n)[i]? = some (mka 1 i) := by simp [marksA, h]
theorem mka_tree {H : Nat → Option Obj} (j k i : Nat) : Tree H (j + 1) (mka k i) := ⟨⟨Nat.zero_le _, Nat.zero_le _, Nat.zero_le _⟩, Row.nil _, Row.nil _, Row.nil _, fun p hp => by simp at hp⟩
theorem mka_same (j k i : Nat) : SameA (j + 1) (mka k i) (mka k i) := ⟨rfl, fun i p p' hp => by simp at hp⟩

/-- What was lent of some things, one by one: what each came to, and the blocks that are its own. -/
inductive Trio (R : Ak → Ak → List Blks → Prop) : List Ak → List Ak → List (List Blks) → Prop
  | nil : Trio R [] [] []
  | snoc {ps os css p o cs} : Trio R ps os css → R p o cs → Trio R (ps ++ [p]) (os ++ [o]) (css ++ [cs])
theorem Trio.len {R : Ak → Ak → List Blks → Prop} {ps os : List Ak} {css : List (List Blks)} (h : Trio R ps os css) : os.length = ps.length ∧ css.length = ps.length := by
  induction h with
  | nil => exact ⟨rfl, rfl⟩
  | snoc h _ ih => simp only [List.length_append, List.length_singleton]; omega
theorem Trio.get {R : Ak → Ak → List Blks → Prop} {ps os : List Ak} {css : List (List Blks)} (h : Trio R ps os css) {k : Nat} {p : Ak} (he : ps[k]? = some p) : ∃ o cs, os[k]? = some o ∧ css[k]? = some cs ∧ R p o cs := by
  induction h with
  | nil => simp at he
  | @snoc ps os css p' o' cs' h hl ih =>
    have hlen := h.len
    by_cases hk : k < ps.length
    · rw [List.getElem?_append_left hk] at he
      obtain ⟨o, L, h1, h2, h3⟩ := ih he
      exact ⟨o, L, get_app h1 _, get_app h2 _, h3⟩
    · rw [List.getElem?_append_right (by omega)] at he
      have hk0 : k - ps.length = 0 := by
        have := (List.getElem?_eq_some_iff.1 he).1
        simp at this
        omega
      rw [hk0] at he
      obtain rfl := Option.some.inj (show some p' = some p from he)
      refine ⟨o', cs', ?_, ?_, hl⟩
      · rw [List.getElem?_append_right (by omega), hlen.1, hk0]; rfl
      · rw [List.getElem?_append_right (by omega), hlen.2, hk0]; rfl
/-- A call that was lent: it, what was lent, and the memory of its bytes, its members and its parts. -/
def LentA : Nat → Ak → Ak → List Blks → Prop
  | 0, _, _, _ => False
  | k + 1, .mk h ps, .mk h' os, bs => h'.c = h.c ∧ Small h.c ∧ ps.length = h.c.pn ∧ h.c.ms.length = h.c.mn ∧ h.c.d.length = h.c.dn ∧ ∃ LD LM LP css, bs = LP :: (css.flatten ++ [LM, LD]) ∧ OwnS 5 1 h'.dA (h.c.dn + 12) h'.dc (bytes (h.c.d ++ marksB 12)) LD ∧
      OwnS 65 4 h'.mA (h.c.mn + 12) h'.mc (mcells (h.c.ms ++ marksM 12)) LM ∧ OwnS 31 15 h'.pA (h.c.pn + 12) h'.pc (acells (os ++ marksA 12)) LP ∧ Trio (LentA k) ps os css
theorem LentA.same : ∀ (k : Nat) (a o : Ak) (bs : List Blks), LentA k a o bs → SameA k o a
  | 0, _, _, _, h => h
  | k + 1, .mk h ps, .mk h' os, bs, ⟨h1, _, _, _, _, LD, LM, LP, css, _, _, _, _, ht⟩ => ⟨h1, fun i p p' hp hp' => by
    obtain ⟨o, cs, ho, _, hr⟩ := ht.get hp'
    obtain rfl := Option.some.inj (ho.symm.trans hp)
    exact LentA.same k _ _ _ hr⟩
theorem LentA.tree {H : Nat → Option Obj} : ∀ (k : Nat) (a o : Ak) (bs : List Blks), LentA k a o bs → (∀ L ∈ bs, ∀ p ∈ L, H p.1 = some p.2) → Tree H k o
  | 0, _, _, _, h, _ => h
  | k + 1, .mk h ps, .mk ⟨c, dA, dc, mA, mc, pA, pc⟩ os, bs, ⟨h1, hsm, hpl, hml, hdl, LD, LM, LP, css, hbs, hd, hm, hp, ht⟩, hH => by
    obtain rfl : c = h.c := h1
    subst hbs
    have hlen := ht.len
    refine ⟨hsm, ?_, ?_, ?_, fun o ho => ?_⟩
    · have h2 := Row.take (hd.row (hH LD (by simp))) (k := h.c.dn) (by omega)
      have e : (bytes (h.c.d ++ marksB 12)).take h.c.dn = bytes h.c.d := by
        unfold bytes
        rw [← List.map_take, List.take_left' hdl]
      rwa [e] at h2
    · exact MRow.left (hm.row (hH LM (by simp))) hml
    · have h2 := Row.take (hp.row (hH LP (by simp))) (k := h.c.pn * 15) (by omega)
      rwa [acells_app, List.take_left' (by rw [flat_len Ak.len]; omega)] at h2
    · obtain ⟨i, hi, rfl⟩ := List.mem_iff_getElem.1 ho
      have hpi : ps[i]? = some (ps[i]'(by omega)) := List.getElem?_eq_getElem (by omega)
      obtain ⟨o', cs, ho', hcs, hr⟩ := ht.get hpi
      rw [List.getElem?_eq_getElem hi] at ho'
      obtain rfl := Option.some.inj ho'
      exact LentA.tree k _ _ _ hr fun L hL => hH L (by
        have := List.mem_of_getElem? hcs
        simp only [List.mem_cons, List.mem_append, List.mem_flatten]
        exact .inr (.inl ⟨cs, this, hL⟩))
end Go.Bd
