/- Contracts of layer 22: the next config by the program and by the document, told in one way. Conditions: as each states. -/
import Derived.Test.Ytinddgigjecofaa22r
namespace Go.Bd
open Go.Proofs
set_option linter.unusedVariables false
set_option maxRecDepth 20000

/-- What a next config comes to. -/
def makeRes (now from_ ver : Int) (ms : List Mb) : Int × List Mb := if makeCode now from_ ver ms = 0 then (ver, ms) else (0, [])
def OwnE (x : En) (L : Blks) : Prop := OwnS 65 4 x.A x.n x.c (mcells x.ms) L
theorem OwnE.row {x : En} {L : Blks} (h : OwnE x L) {H : Nat → Option Obj} (hH : ∀ p ∈ L, H p.1 = some p.2) : MRow H x.A x.n x.ms := OwnS.row h hH
theorem OwnE.len {x : En} {L : Blks} (h : OwnE x L) : x.ms.length = x.n := by
  have := h.1
  rw [flat_len Mb.len] at this
  omega
def MakeRet (F : Env) (Ls : List Blks) (now from_ ver : Int) (ms : List Mb) (v : Value) (w' : World) : Prop :=
  ∃ (x : En) (L : Blks), v = .tuple #[.agg #[.int .i64 x.ver, .slice x.A x.n x.c], .int .i64 (makeCode now from_ ver ms)] ∧ x.abs = makeRes now from_ ver ms ∧ x.n ≤ ms.length ∧ OwnE x L ∧ Mem F w' (L :: Ls)
theorem make_ret {F : Env} {Ls : List Blks} {now from_ ver : Int} {n : Nat} {ms : List Mb} {v : Value} {w' : World} (hl : ms.length = n) (h : (makeCode now from_ ver ms = 0 ∧ ∃ A' c' L, v = .tuple #[.agg #[.int .i64 ver, .slice A' n c'], .int .i64 0] ∧ OwnS 65 4 A' n c' (mcells ms) L ∧ Mem F w' (L :: Ls)) ∨
        (makeCode now from_ ver ms ≠ 0 ∧ v = .tuple #[.agg #[.int .i64 0, .slice none 0 0], .int .i64 (makeCode now from_ ver ms)] ∧ Mem F w' Ls)) : MakeRet F Ls now from_ ver ms v w' := by
  rcases h with ⟨h0, A', c', L, rfl, ho, hm⟩ | ⟨h0, rfl, hm⟩
  · exact ⟨⟨ver, A', n, c', ms⟩, L, by rw [h0], by unfold makeRes; rw [if_pos h0]; rfl, by simp only; omega, ho, hm⟩
  · exact ⟨⟨0, none, 0, 0, []⟩, [], rfl, by unfold makeRes; rw [if_neg h0]; rfl, Nat.zero_le _, OwnS.nil _ _, hm.nil_⟩
theorem make2_c {F : Env} {w : World} {Ls : List Blks} {A0 A : Option Addr} {n0 c0 n c : Nat} {ms : List Mb} {now from_ ver : Int} {acs : Array Value} (hm : Mem F w Ls) (hn : n * 32 ≤ 140737488355328) (hr : MRow F.heap A n ms)
    (h12 : acs[12]? = some (.int .i64 from_)) (h13 : acs[13]? = some (.slice A n c)) :
    Calls Try.prog 12 #[.agg #[.int .i64 now, .slice A0 n0 c0], .agg acs, .int .i64 ver] w (Ret (MakeRet F Ls now from_ ver ms)) :=
  Ret.mono (make_c hm hn hr h12 h13) fun v w' h => make_ret hr.len h
theorem ref_make2_c {F : Env} {w : World} {Ls : List Blks} {A0 A : Option Addr} {n0 c0 n c : Nat} {ms : List Mb} {now from_ ver : Int} {acs : Array Value} (hm : Mem F w Ls) (hn : n * 32 ≤ 140737488355328) (hr : MRow F.heap A n ms)
    (h12 : acs[12]? = some (.int .i64 from_)) (h13 : acs[13]? = some (.slice A n c)) :
    Calls Try.prog 17 #[.agg #[.int .i64 now, .slice A0 n0 c0], .agg acs, .int .i64 ver] w (Ret (MakeRet F Ls now from_ ver ms)) :=
  Ret.mono (ref_make_c hm hn hr h12 h13) fun v w' h => make_ret hr.len h
end Go.Bd
