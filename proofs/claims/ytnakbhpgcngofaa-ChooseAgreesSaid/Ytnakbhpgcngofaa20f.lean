/- Contracts of layer 20: a chooser: whether it is there, begun, made, what it votes. Conditions: as each states. -/
import Derived.Test.Ytnakbhpgcngofaa20e
namespace Go.Bd
open Go.Proofs
set_option linter.unusedVariables false
set_option maxRecDepth 20000

abbrev letA (round : Int) (v : Vt) : Array Value := #[.int .u8 1, .int .u8 1, .int .i64 round, .int .i64 v.l, .int .i64 v.e, .int .i64 0, .bool false, .int .i64 v.z, .int .i64 0, .int .i64 0, .slice none 0 0, .slice none 0 0, .int .i64 0, .int .u8 0, .int .i64 0, .int .i64 0, .int .i64 0, .int .i64 0, .string ⟨#[]⟩, .slice none 0 0, .int .i64 0, .int .i64 0, .int .i64 0, .int .i64 0, .int .i64 0, .int .i64 0, .slice none 0 0, .slice none 0 0, .int .u8 0, .int .i64 0, .int .i64 0, .int .i64 0, .string ⟨#[]⟩, .slice none 0 0, .int .i64 0, .int .i64 0, .bool false, .int .u8 0, .int .i64 0, .int .i64 0, .int .i64 0, .slice none 0 0, .slice none 0 0]
abbrev letZ : Array Value := #[.int .u8 0, .int .u8 0, .int .i64 0, .int .i64 0, .int .i64 0, .int .i64 0, .bool false, .int .i64 0, .int .i64 0, .int .i64 0, .slice none 0 0, .slice none 0 0, .int .i64 0, .int .u8 0, .int .i64 0, .int .i64 0, .int .i64 0, .int .i64 0, .string ⟨#[]⟩, .slice none 0 0, .int .i64 0, .int .i64 0, .int .i64 0, .int .i64 0, .int .i64 0, .int .i64 0, .slice none 0 0, .slice none 0 0, .int .u8 0, .int .i64 0, .int .i64 0, .int .i64 0, .string ⟨#[]⟩, .slice none 0 0, .int .i64 0, .int .i64 0, .bool false, .int .u8 0, .int .i64 0, .int .i64 0, .int .i64 0, .slice none 0 0, .slice none 0 0]
theorem lay_whole {cs : Array Value} {vs : List Value} (h : cs.size = vs.length) : lay cs 0 vs = vs.toArray := by
  apply Array.ext_getElem?
  intro i
  rw [lay_at _ _ _ _ (by omega)]
  by_cases hi : i < vs.length
  · rw [if_pos ⟨by omega, by omega⟩, Nat.sub_zero]
    simp
  · rw [if_neg (by omega), Array.getElem?_eq_none (by omega), Array.getElem?_eq_none (by simp; omega)]
section
variable {F : Env} {w : World} {Ls : List Blks}
theorem there_c {g : Nat} {id : Int} {cur : Array Value} {T : TypeId} (hm : Mem F w Ls) (hg : F.heap g = some (.cells cur T (0, 0))) (hid : cur[0]? = some (.int .i64 id)) :
    Calls Try.prog 35 #[.pointer (some ⟨g, 0, none⟩)] w (Ret fun v w' => v = .bool (decide (0 < id)) ∧ Mem F w' Ls) := by
  refine Calls.of_vc Try.func35 rfl Try.ntmps35 rfl ?_
  repeat (first | refine VC.seq ?_ | refine VC.block ?_ | refine VC.skip ?_)
  refine VC.region ?_
  refine VR.pure rfl rfl (p_assignB rfl) ?_
  refine VR.nil ?_
  repeat (first | refine VC.seq ?_ | refine VC.block ?_ | refine VC.skip ?_)
  refine VC.region ?_
  refine VR.pure rfl rfl (p_moveP rfl) ?_
  refine VR.pure rfl rfl (p_neNilP Try.underlying27 rfl) ?_
  refine VR.pure rfl rfl (p_moveB rfl) ?_
  refine VR.knownT 5 rfl rfl ?_
  refine VR.pureG rfl rfl (p_moveP rfl) ?_
  refine VR.pureG rfl rfl (p_nilCheck rfl) ?_
  refine VR.pureG rfl rfl (p_field (fo := 0) Try.underlying67 rfl Try.sizeOf3 rfl rfl rfl) ?_
  refine VR.valG rfl rfl (r_load (v := .int _ _) Try.isAgg3 rfl (hm.fix _ _ hg) hid) ?_
  refine VR.pureG rfl rfl (p_gt rfl rfl) ?_
  refine VR.pure rfl rfl (p_pickT rfl rfl) ?_
  refine VR.pure rfl rfl (p_assignB rfl) ?_
  refine VR.nil ?_
  repeat (first | refine VC.seq ?_ | refine VC.block ?_ | refine VC.skip ?_)
  refine VC.ret ⟨_, ResOf.r1 (v := .bool _) rfl rfl, ?_⟩
  exact ⟨rfl, hm⟩
theorem there_nil : Calls Try.prog 35 #[.pointer none] w (Ret fun v w' => v = .bool false ∧ w' = w) := by
  refine Calls.of_vc Try.func35 rfl Try.ntmps35 rfl ?_
  repeat (first | refine VC.seq ?_ | refine VC.block ?_ | refine VC.skip ?_)
  refine VC.region ?_
  refine VR.pure rfl rfl (p_assignB rfl) ?_
  refine VR.nil ?_
  repeat (first | refine VC.seq ?_ | refine VC.block ?_ | refine VC.skip ?_)
  refine VC.region ?_
  refine VR.pure rfl rfl (p_moveP rfl) ?_
  refine VR.pure rfl rfl (p_neNilP Try.underlying27 rfl) ?_
  refine VR.pure rfl rfl (p_moveB rfl) ?_
  refine VR.knownF 5 rfl rfl ?_
  refine VR.pass rfl rfl ?_
  refine VR.pass rfl rfl ?_
  refine VR.pass rfl rfl ?_
  refine VR.pass rfl rfl ?_
  refine VR.pass rfl rfl ?_
  refine VR.pure rfl rfl (p_pickF rfl rfl) ?_
  refine VR.pure rfl rfl (p_assignB rfl) ?_
  refine VR.nil ?_
  repeat (first | refine VC.seq ?_ | refine VC.block ?_ | refine VC.skip ?_)
  refine VC.ret ⟨_, ResOf.r1 (v := .bool _) rfl rfl, ?_⟩
  exact ⟨rfl, rfl⟩
theorem begin_r {g : Nat} {id : Int} {me : Vt} {A : Option Addr} {n c : Nat} {round : Int} {v : Vt} {mo : Option Nat} {calm ep zx : Int} {A1 : Option Addr} {n1 c1 : Nat} {es : List En} (hm : Mem F w ([(g, chO id me A n c round v mo calm)] :: Ls)) (hid : 0 < id)
    (hn : n1 ≤ 100000) (hr : ERow F.heap A1 n1 es) (hsm : ∀ e ∈ es, e.n * 32 ≤ 140737488355328) :
    Calls Try.prog 19 #[.pointer (some ⟨g, 0, none⟩), .int .i64 ep, .int .i64 zx, .slice A1 n1 c1] w
      (Ret fun _ w' => ∃ m' A' c' os G, F.under G ∧ ERow G.heap A' n1 os ∧ os.map En.abs = es.map En.abs ∧ Mem G w' ([(g, chO id ⟨id, ep, zx⟩ A' n1 c' (IntKind.i64.wrap (round + 1)) (ownV os id ⟨id, ep, zx⟩) (some m') 0)] :: [(m', .map #[] 0)] :: Ls)) := by
  refine Calls.of_vc Try.func19 rfl Try.ntmps19 rfl ?_
  repeat (first | refine VC.seq ?_ | refine VC.block ?_ | refine VC.skip ?_)
  refine VC.region ?_
  refine VR.pure rfl rfl (p_moveP rfl) ?_
  refine VR.call rfl rfl (r_call1 Try.call35 rfl) (there_c (id := id) hm.all (hm.plus_at 0 0 rfl) rfl) ?_
  rintro _ w ⟨rfl, hm'⟩
  replace hm := hm.back0 hm'
  refine VR.pure rfl rfl (p_notD rfl) ?_
  refine VR.nil ?_
  repeat (first | refine VC.seq ?_ | refine VC.block ?_ | refine VC.skip ?_)
  refine VC.condF rfl (decide_eq_false (not_not_intro hid)) ?_
  repeat (first | refine VC.seq ?_ | refine VC.block ?_ | refine VC.skip ?_)
  refine VC.meet (σ := Unit) (fun _ => [(0, .pointer (some ⟨g, 0, none⟩))]) (fun _ w => ∃ A' c' os G, F.under G ∧ ERow G.heap A' n1 os ∧ os.map En.abs = es.map En.abs ∧ Mem G w ([(g, chO id ⟨id, ep, zx⟩ A' n1 c' round v mo calm)] :: Ls)) ?_ ?_
  · repeat (first | refine VC.seq ?_ | refine VC.block ?_ | refine VC.skip ?_)
    refine VC.free (Kept F []) [5, 10, 13, 16] rfl (by kernel_rfl) (Kept.of0 hm.drew) ?_
    replace hm := hm.drew
    refine VD.pure 0 rfl (by kernel_rfl) rfl rfl (p_moveP rfl) ?_
    refine VD.pure 1 rfl (by kernel_rfl) rfl rfl (p_moveP rfl) ?_
    refine VD.pure 2 rfl (by kernel_rfl) rfl rfl (p_moveP rfl) ?_
    refine VD.pure 3 rfl (by kernel_rfl) rfl rfl (p_nilCheck rfl) ?_
    refine VD.pure 4 rfl (by kernel_rfl) rfl rfl (p_field (fo := 0) Try.underlying67 rfl Try.sizeOf3 rfl rfl rfl) ?_
    refine VD.pure 6 rfl (by kernel_rfl) rfl rfl (p_moveI rfl) ?_
    refine VD.pure 7 rfl (by kernel_rfl) rfl rfl (p_moveI rfl) ?_
    refine VD.pure 9 rfl (by kernel_rfl) rfl rfl (p_moveL rfl) ?_
    refine VD.turn2 5 10 (by kernel_rfl) ?_ ?_
    refine VDT.val rfl rfl rfl (r_load (v := .int _ _) Try.isAgg3 rfl (hm.at_ 0 0 rfl) rfl) (Kept.of0 hm) ?_
    refine VD.pure 8 rfl (by kernel_rfl) rfl rfl (p_build (vs := [(0, .int _ _), (1, .int _ _), (2, .int _ _)]) bld64_0_1_2 rfl) ?_
    refine VD.turn1 10 (by kernel_rfl) ?_
    refine VDT.call rfl rfl rfl (r_call1 Try.call40 rfl) (copied_c hm hn hr hsm) ?_
    rintro _ w ⟨A', c', os, G, rfl, hu, hr', habs, hm⟩
    refine ⟨Kept.of0 (hm.shrink hu), ?_⟩
    refine VD.pure 11 rfl (by kernel_rfl) rfl rfl (p_nilCheck rfl) ?_
    refine VD.pure 12 rfl (by kernel_rfl) rfl rfl (p_field (fo := 1) Try.underlying67 rfl Try.sizeOf64 rfl rfl rfl) ?_
    refine VD.turn1 13 (by kernel_rfl) ?_
    refine VDT.store (cs' := #[.int .i64 id, .int .i64 id, .int .i64 ep, .int .i64 zx, .slice A n c, .int .i64 round, .int .i64 v.l, .int .i64 v.e, .int .i64 v.z, .map mo, .int .i64 calm]) (v := .agg _) Try.sizeOf64 rfl rfl rfl rfl rfl rfl hm 0 0 rfl (Nat.ble_eq.mp rfl) rfl (fun w' hm' => Kept.of0 (hm'.shrink hu)) ?_
    intro w hm
    refine VD.pure 14 rfl (by kernel_rfl) rfl rfl (p_nilCheck rfl) ?_
    refine VD.pure 15 rfl (by kernel_rfl) rfl rfl (p_field (fo := 4) Try.underlying67 rfl Try.sizeOf23 rfl rfl rfl) ?_
    refine VD.turn1 16 (by kernel_rfl) ?_
    refine VDT.store (cs' := #[.int .i64 id, .int .i64 id, .int .i64 ep, .int .i64 zx, .slice A' n1 c', .int .i64 round, .int .i64 v.l, .int .i64 v.e, .int .i64 v.z, .map mo, .int .i64 calm]) (v := .slice _ _ _) Try.sizeOf23 rfl rfl rfl rfl rfl rfl hm 0 0 rfl (Nat.ble_eq.mp rfl) rfl (fun w' hm' => Kept.of0 (hm'.shrink hu)) ?_
    intro w hm
    refine VD.nil (by kernel_rfl) rfl ?_
    rotate_left 1
    refine VDT.call rfl rfl rfl (r_call1 Try.call40 rfl) (copied_c hm hn hr hsm) ?_
    rintro _ w ⟨A', c', os, G, rfl, hu, hr', habs, hm⟩
    refine ⟨Kept.of0 (hm.shrink hu), ?_⟩
    refine VD.turn1 5 (by kernel_rfl) ?_
    refine VDT.val rfl rfl rfl (r_load (v := .int _ _) Try.isAgg3 rfl (hm.at_ 0 0 rfl) rfl) (Kept.of0 (hm.shrink hu)) ?_
    refine VD.pure 8 rfl (by kernel_rfl) rfl rfl (p_build (vs := [(0, .int _ _), (1, .int _ _), (2, .int _ _)]) bld64_0_1_2 rfl) ?_
    refine VD.pure 11 rfl (by kernel_rfl) rfl rfl (p_nilCheck rfl) ?_
    refine VD.pure 12 rfl (by kernel_rfl) rfl rfl (p_field (fo := 1) Try.underlying67 rfl Try.sizeOf64 rfl rfl rfl) ?_
    refine VD.turn1 13 (by kernel_rfl) ?_
    refine VDT.store (cs' := #[.int .i64 id, .int .i64 id, .int .i64 ep, .int .i64 zx, .slice A n c, .int .i64 round, .int .i64 v.l, .int .i64 v.e, .int .i64 v.z, .map mo, .int .i64 calm]) (v := .agg _) Try.sizeOf64 rfl rfl rfl rfl rfl rfl hm 0 0 rfl (Nat.ble_eq.mp rfl) rfl (fun w' hm' => Kept.of0 (hm'.shrink hu)) ?_
    intro w hm
    refine VD.pure 14 rfl (by kernel_rfl) rfl rfl (p_nilCheck rfl) ?_
    refine VD.pure 15 rfl (by kernel_rfl) rfl rfl (p_field (fo := 4) Try.underlying67 rfl Try.sizeOf23 rfl rfl rfl) ?_
    refine VD.turn1 16 (by kernel_rfl) ?_
    refine VDT.store (cs' := #[.int .i64 id, .int .i64 id, .int .i64 ep, .int .i64 zx, .slice A' n1 c', .int .i64 round, .int .i64 v.l, .int .i64 v.e, .int .i64 v.z, .map mo, .int .i64 calm]) (v := .slice _ _ _) Try.sizeOf23 rfl rfl rfl rfl rfl rfl hm 0 0 rfl (Nat.ble_eq.mp rfl) rfl (fun w' hm' => Kept.of0 (hm'.shrink hu)) ?_
    intro w hm
    refine VD.nil (by kernel_rfl) rfl ?_
    rotate_left 1
    all_goals exact ⟨(), ⟨rfl, trivial⟩, A', c', os, G, hu, hr', habs, hm⟩
  clear hm
  rintro _ A2 w ⟨A', c', os, G, hu, hr', habs, hm⟩
  repeat (first | refine VC.seq ?_ | refine VC.block ?_ | refine VC.skip ?_)
  refine VC.region ?_
  refine VR.pure rfl rfl (p_moveP rfl) ?_
  refine VR.pure rfl rfl (p_moveP rfl) ?_
  refine VR.pure rfl rfl (p_nilCheck rfl) ?_
  refine VR.pure rfl rfl (p_field (fo := 5) Try.underlying67 rfl Try.sizeOf3 rfl rfl rfl) ?_
  refine VR.val rfl rfl (r_load (v := .int _ _) Try.isAgg3 rfl (hm.at_ 0 0 rfl) rfl) ?_
  refine VR.pure rfl rfl (p_add rfl rfl) ?_
  refine VR.call rfl rfl (r_call2 Try.call36 rfl rfl) (turn_c hm (by unfold maxLen; omega) hr') ?_
  rintro _ w ⟨m', hm⟩
  refine VR.nil ?_
  repeat (first | refine VC.seq ?_ | refine VC.block ?_ | refine VC.skip ?_)
  exact ⟨_, ResOf.r0 rfl, m', A', c', os, G, hu, hr', habs, hm⟩

/-! ### A chooser with all it knows -/
structure Ch where
  id : Int
  me : Vt
  A : Option Addr
  n : Nat
  c : Nat
  es : List En
  round : Int
  v : Vt
  clock : Nat
  hs : List He
  calm : Int
abbrev Ch.ents (C : Ch) : List MapEntry := C.hs.map He.ent
abbrev Ch.obj (C : Ch) (m : Nat) : Obj := chO C.id C.me C.A C.n C.c C.round C.v (some m) C.calm
abbrev Ch.map (C : Ch) : Obj := .map C.ents.toArray C.clock
structure ChOk (H : Nat → Option Obj) (C : Ch) : Prop where
  row : ERow H C.A C.n C.es
  n : C.n ≤ 100000
  ents : Ents (.int .i64) C.ents C.clock
  id : 1 ≤ C.id ∧ C.id ≤ 7
  heard : ∀ x ∈ C.hs, 1 ≤ x.id ∧ x.id ≤ 7
theorem ChOk.mono {H K : Nat → Option Obj} {C : Ch} (h : ChOk H C) (hle : ∀ b o, H b = some o → K b = some o) : ChOk K C := ⟨h.row.mono hle, h.n, h.ents, h.id, h.heard⟩
structure Ca where
  id : Int
  me : Vt
  es : List (Int × List Mb)
  round : Int
  v : Vt
  hs : List (Int × Vt)
  calm : Int
def He.abs (x : He) : Int × Vt := (x.id, x.v)
def Ch.abs (C : Ch) : Ca := ⟨C.id, C.me, C.es.map En.abs, C.round, C.v, C.hs.map He.abs, C.calm⟩
def ownA (es : List (Int × List Mb)) (id : Int) (me : Vt) : Vt := if es.any fun e => voterE e.2 id then me else v0
theorem own_abs (es : List En) (id : Int) (me : Vt) : ownV es id me = ownA (es.map En.abs) id me := by
  unfold ownV ownA
  rw [List.any_map]
  rfl
def turnA (a : Ca) (r : Int) : Ca := ⟨a.id, a.me, a.es, r, ownA a.es a.id a.me, [], 0⟩
def beginA (a : Ca) (ep zx : Int) (es : List (Int × List Mb)) : Ca := turnA ⟨a.id, ⟨a.id, ep, zx⟩, es, a.round, a.v, a.hs, a.calm⟩ (IntKind.i64.wrap (a.round + 1))
def newA (id ep zx : Int) (es : List (Int × List Mb)) : Ca := turnA ⟨id, ⟨id, ep, zx⟩, es, 0, v0, [], 0⟩ 1
theorem begin_c {g m : Nat} {C : Ch} {ep zx : Int} {A1 : Option Addr} {n1 c1 : Nat} {es : List En} (hm : Mem F w ([(g, C.obj m)] :: [(m, C.map)] :: Ls)) (hC : ChOk F.heap C)
    (hn : n1 ≤ 100000) (hr : ERow F.heap A1 n1 es) (hsm : ∀ e ∈ es, e.n * 32 ≤ 140737488355328) :
    Calls Try.prog 19 #[.pointer (some ⟨g, 0, none⟩), .int .i64 ep, .int .i64 zx, .slice A1 n1 c1] w
      (Ret fun _ w' => ∃ m' C' G, F.under G ∧ ChOk G.heap C' ∧ C'.abs = beginA C.abs ep zx (es.map En.abs) ∧ Mem G w' ([(g, C'.obj m')] :: [(m', C'.map)] :: Ls)) := by
  refine (begin_r hm (by have := hC.id; omega) hn hr hsm).mono fun ws w' ⟨v, hv, m', A', c', os, G, hu, hr', habs, hm'⟩ => ⟨v, hv, m', ⟨C.id, ⟨C.id, ep, zx⟩, A', n1, c', os, IntKind.i64.wrap (C.round + 1), ownV os C.id ⟨C.id, ep, zx⟩, 0, [], 0⟩, G, hu, ⟨hr', hn, Ents.nil _ _, hC.id, by simp⟩, ?_, (hm'.pull 2 rfl).pop⟩
  unfold Ch.abs beginA turnA
  dsimp only
  rw [own_abs, habs]
  rfl
theorem new_c {id ep zx : Int} {A1 : Option Addr} {n1 c1 : Nat} {es : List En} (hm : Mem F w Ls) (hid : 1 ≤ id ∧ id ≤ 7)
    (hn : n1 ≤ 100000) (hr : ERow F.heap A1 n1 es) (hsm : ∀ e ∈ es, e.n * 32 ≤ 140737488355328) :
    Calls Try.prog 9 #[.int .i64 id, .int .i64 ep, .int .i64 zx, .slice A1 n1 c1] w
      (Ret fun v w' => ∃ g m' C' G, v = .pointer (some ⟨g, 0, none⟩) ∧ F.under G ∧ ChOk G.heap C' ∧ C'.abs = newA id ep zx (es.map En.abs) ∧ Mem G w' ([(g, C'.obj m')] :: [(m', C'.map)] :: Ls)) := by
  refine Calls.of_vc Try.func9 rfl Try.ntmps9 rfl ?_
  repeat (first | refine VC.seq ?_ | refine VC.block ?_ | refine VC.skip ?_)
  refine VC.region ?_
  refine VR.pure rfl rfl (p_assignP rfl) ?_
  refine VR.nil ?_
  repeat (first | refine VC.seq ?_ | refine VC.block ?_ | refine VC.skip ?_)
  refine VC.region ?_
  refine VR.pure rfl rfl (p_moveI rfl) ?_
  refine VR.pure rfl rfl (p_lt rfl rfl) ?_
  refine VR.pure rfl rfl (p_moveB rfl) ?_
  refine VR.knownF 12 rfl (decide_eq_false (by omega)) ?_
  refine VR.pureG rfl rfl (p_moveI rfl) ?_
  refine VR.pureG rfl rfl (p_gt rfl rfl) ?_
  refine VR.pure rfl rfl (p_pickF rfl rfl) ?_
  refine VR.nil ?_
  repeat (first | refine VC.seq ?_ | refine VC.block ?_ | refine VC.skip ?_)
  refine VC.condF rfl (decide_eq_false (by omega)) ?_
  repeat (first | refine VC.seq ?_ | refine VC.block ?_ | refine VC.skip ?_)
  refine VC.region ?_
  refine VR.pure rfl rfl (p_moveI rfl) ?_
  refine VR.pure rfl rfl (p_build (vs := [(0, .int _ _)]) bld67_0 rfl) ?_
  refine VR.new hm rfl rfl (n_boxG rfl) ?_
  intro g w hm
  refine VR.pure rfl rfl (p_assignP rfl) ?_
  refine VR.nil ?_
  repeat (first | refine VC.seq ?_ | refine VC.block ?_ | refine VC.skip ?_)
  refine VC.region ?_
  refine VR.pure rfl rfl (p_moveP rfl) ?_
  refine VR.pure rfl rfl (p_moveI rfl) ?_
  refine VR.pure rfl rfl (p_moveI rfl) ?_
  refine VR.pure rfl rfl (p_moveL rfl) ?_
  refine VR.call rfl rfl (r_call4 Try.call19 rfl rfl rfl rfl) (begin_r (v := v0) (me := v0) (round := 0) (mo := none) (A := none) (n := 0) (c := 0) (calm := 0) hm (by omega) hn hr hsm) ?_
  rintro _ w ⟨m', A', c', os, G, hu, hr', habs, hm⟩
  refine VR.nil ?_
  repeat (first | refine VC.seq ?_ | refine VC.block ?_ | refine VC.skip ?_)
  refine VC.region ?_
  refine VR.pure rfl rfl (p_moveP rfl) ?_
  refine VR.pure rfl rfl (p_assignP rfl) ?_
  refine VR.nil ?_
  repeat (first | refine VC.seq ?_ | refine VC.block ?_ | refine VC.skip ?_)
  refine VC.ret ⟨_, ResOf.r1 (v := .pointer _) rfl rfl, ?_⟩
  refine ⟨g, m', ⟨id, ⟨id, ep, zx⟩, A', n1, c', os, IntKind.i64.wrap (0 + 1), ownV os id ⟨id, ep, zx⟩, 0, [], 0⟩, G, rfl, hu, ⟨hr', hn, Ents.nil _ _, hid, by simp⟩, ?_, ?_⟩
  rotate_left
  · exact hm
  unfold Ch.abs newA turnA
  dsimp only
  rw [own_abs, habs]
  rfl
theorem new_no {id ep zx : Int} {s : Value} (hid : ¬ (1 ≤ id ∧ id ≤ 7)) :
    Calls Try.prog 9 #[.int .i64 id, .int .i64 ep, .int .i64 zx, s] w (Ret fun v w' => v = .pointer none ∧ w' = w) := by
  refine Calls.of_vc Try.func9 rfl Try.ntmps9 rfl ?_
  repeat (first | refine VC.seq ?_ | refine VC.block ?_ | refine VC.skip ?_)
  refine VC.region ?_
  refine VR.pure rfl rfl (p_assignP rfl) ?_
  refine VR.nil ?_
  repeat (first | refine VC.seq ?_ | refine VC.block ?_ | refine VC.skip ?_)
  refine VC.region ?_
  refine VR.pure rfl rfl (p_moveI rfl) ?_
  refine VR.pure rfl rfl (p_lt rfl rfl) ?_
  refine VR.pure rfl rfl (p_moveB rfl) ?_
  refine VR.splitD 12 rfl (fun h2 => ?_) (fun h2 => ?_)
  refine VR.pass rfl rfl ?_
  refine VR.pass rfl rfl ?_
  refine VR.pure rfl rfl (p_pickT rfl rfl) ?_
  refine VR.nil ?_
  rotate_left 1
  refine VR.pureG rfl rfl (p_moveI rfl) ?_
  refine VR.pureG rfl rfl (p_gt rfl rfl) ?_
  refine VR.pure rfl rfl (p_pickF rfl rfl) ?_
  refine VR.nil ?_
  rotate_left 1
  · repeat (first | refine VC.seq ?_ | refine VC.block ?_ | refine VC.skip ?_)
    refine VC.condT rfl rfl ?_
    repeat (first | refine VC.seq ?_ | refine VC.block ?_ | refine VC.skip ?_)
    refine VC.region ?_
    refine VR.pure rfl rfl (p_assignP rfl) ?_
    refine VR.nil ?_
    repeat (first | refine VC.seq ?_ | refine VC.block ?_ | refine VC.skip ?_)
    refine VC.ret ⟨_, ResOf.r1 (v := .pointer _) rfl rfl, ?_⟩
    exact ⟨rfl, rfl⟩
  · repeat (first | refine VC.seq ?_ | refine VC.block ?_ | refine VC.skip ?_)
    refine VC.condT rfl (decide_eq_true (by omega)) ?_
    repeat (first | refine VC.seq ?_ | refine VC.block ?_ | refine VC.skip ?_)
    refine VC.region ?_
    refine VR.pure rfl rfl (p_assignP rfl) ?_
    refine VR.nil ?_
    repeat (first | refine VC.seq ?_ | refine VC.block ?_ | refine VC.skip ?_)
    refine VC.ret ⟨_, ResOf.r1 (v := .pointer _) rfl rfl, ?_⟩
    exact ⟨rfl, rfl⟩
theorem vote_c {g m : Nat} {C : Ch} (hm : Mem F w ([(g, C.obj m)] :: [(m, C.map)] :: Ls)) (hC : ChOk F.heap C) :
    Calls Try.prog 22 #[.pointer (some ⟨g, 0, none⟩)] w (Ret fun v w' => v = .agg (letA C.round C.v) ∧ Mem F w' ([(g, C.obj m)] :: [(m, C.map)] :: Ls)) := by
  have hid := hC.id
  refine Calls.of_vc Try.func22 rfl Try.ntmps22 rfl ?_
  repeat (first | refine VC.seq ?_ | refine VC.block ?_ | refine VC.skip ?_)
  refine VC.region ?_
  refine VR.new hm rfl rfl (n_allocG Try.zeroValue52) ?_
  intro b2 w hm
  refine VR.nil ?_
  repeat (first | refine VC.seq ?_ | refine VC.block ?_ | refine VC.skip ?_)
  refine VC.region ?_
  refine VR.pure rfl rfl (p_moveP rfl) ?_
  refine VR.call rfl rfl (r_call1 Try.call35 rfl) (there_c (id := C.id) hm.all (hm.plus_at 1 0 rfl) rfl) ?_
  rintro _ w ⟨rfl, hm'⟩
  replace hm := hm.back0 hm'
  refine VR.pure rfl rfl (p_notD rfl) ?_
  refine VR.nil ?_
  repeat (first | refine VC.seq ?_ | refine VC.block ?_ | refine VC.skip ?_)
  refine VC.condF rfl (decide_eq_false (not_not_intro (by omega))) ?_
  repeat (first | refine VC.seq ?_ | refine VC.block ?_ | refine VC.skip ?_)
  refine VC.loud (Kept F ([(g, C.obj m)] :: [])) [20] rfl (by kernel_rfl) (Kept.one hm.drew 1 rfl) ?_
  replace hm := hm.drew
  refine VL.pure rfl rfl rfl (p_moveP rfl) ?_
  refine VL.pure rfl rfl rfl (p_nilCheck rfl) ?_
  refine VL.pure rfl rfl rfl (p_field (fo := 5) Try.underlying67 rfl Try.sizeOf3 rfl rfl rfl) ?_
  refine VL.read rfl rfl rfl (fun w' hw' => r_load (v := .int _ _) Try.isAgg3 rfl (hw'.at_ 0 0 rfl) rfl) ?_
  refine VL.pure rfl rfl rfl (p_moveP rfl) ?_
  refine VL.pure rfl rfl rfl (p_nilCheck rfl) ?_
  refine VL.pure rfl rfl rfl (p_field (fo := 6) Try.underlying67 rfl Try.sizeOf64 rfl rfl rfl) ?_
  refine VL.pure rfl rfl rfl (p_field (fo := 0) Try.underlying64 rfl Try.sizeOf3 rfl rfl rfl) ?_
  refine VL.read rfl rfl rfl (fun w' hw' => r_load (v := .int _ _) Try.isAgg3 rfl (hw'.at_ 0 0 rfl) rfl) ?_
  refine VL.pure rfl rfl rfl (p_moveP rfl) ?_
  refine VL.pure rfl rfl rfl (p_nilCheck rfl) ?_
  refine VL.pure rfl rfl rfl (p_field (fo := 6) Try.underlying67 rfl Try.sizeOf64 rfl rfl rfl) ?_
  refine VL.pure rfl rfl rfl (p_field (fo := 1) Try.underlying64 rfl Try.sizeOf3 rfl rfl rfl) ?_
  refine VL.read rfl rfl rfl (fun w' hw' => r_load (v := .int _ _) Try.isAgg3 rfl (hw'.at_ 0 0 rfl) rfl) ?_
  refine VL.pure rfl rfl rfl (p_moveP rfl) ?_
  refine VL.pure rfl rfl rfl (p_nilCheck rfl) ?_
  refine VL.pure rfl rfl rfl (p_field (fo := 6) Try.underlying67 rfl Try.sizeOf64 rfl rfl rfl) ?_
  refine VL.pure rfl rfl rfl (p_field (fo := 2) Try.underlying64 rfl Try.sizeOf22 rfl rfl rfl) ?_
  refine VL.read rfl rfl rfl (fun w' hw' => r_load (v := .int _ _) Try.isAgg22 rfl (hw'.at_ 0 0 rfl) rfl) ?_
  refine VL.pure rfl rfl rfl (p_build (vs := [(0, .int _ _), (1, .int _ _), (2, .int _ _), (3, .int _ _), (4, .int _ _), (7, .int _ _)]) bld52_0_1_2_3_4_7 rfl) ?_
  refine VL.store (cs' := (letA C.round C.v)) (v := .agg _) Try.sizeOf52 rfl rfl rfl rfl rfl rfl hm 0 0 rfl (Nat.ble_eq.mp rfl) (lay_whole rfl) (fun w' hm' => Kept.one hm' 1 rfl) ?_
  intro w hm
  refine VL.nil ?_
  repeat (first | refine VC.seq ?_ | refine VC.block ?_ | refine VC.skip ?_)
  refine VC.ret ⟨_, ResOf.r1 (v := .agg _) rfl ⟨_, rfl, run_loadVarAgg Try.isAgg52 Try.sizeOf52 (hm.at_ 0 0 rfl) (vs := (letA C.round C.v).toList) rfl (agg_at rfl)⟩, ?_⟩
  exact ⟨rfl, hm.pop⟩
theorem vote_nil (hm : Mem F w Ls) :
    Calls Try.prog 22 #[.pointer none] w (Ret fun v w' => v = .agg letZ ∧ Mem F w' Ls) := by
  refine Calls.of_vc Try.func22 rfl Try.ntmps22 rfl ?_
  repeat (first | refine VC.seq ?_ | refine VC.block ?_ | refine VC.skip ?_)
  refine VC.region ?_
  refine VR.new hm rfl rfl (n_allocG Try.zeroValue52) ?_
  intro b2 w hm
  refine VR.nil ?_
  repeat (first | refine VC.seq ?_ | refine VC.block ?_ | refine VC.skip ?_)
  refine VC.region ?_
  refine VR.pure rfl rfl (p_moveP rfl) ?_
  refine VR.call rfl rfl (r_call1 Try.call35 rfl) (there_nil) ?_
  rintro _ _ ⟨rfl, rfl⟩
  refine VR.pure rfl rfl (p_not rfl) ?_
  refine VR.nil ?_
  repeat (first | refine VC.seq ?_ | refine VC.block ?_ | refine VC.skip ?_)
  refine VC.condT rfl rfl ?_
  repeat (first | refine VC.seq ?_ | refine VC.block ?_ | refine VC.skip ?_)
  refine VC.region ?_
  refine VR.pure rfl rfl (p_build (vs := []) bld52_0x rfl) ?_
  refine VR.store (cs' := letZ) (v := .agg _) Try.sizeOf52 rfl rfl rfl rfl rfl hm 0 0 rfl (Nat.ble_eq.mp rfl) (lay_whole rfl) ?_
  intro w hm
  refine VR.nil ?_
  repeat (first | refine VC.seq ?_ | refine VC.block ?_ | refine VC.skip ?_)
  refine VC.ret ⟨_, ResOf.r1 (v := .agg _) rfl ⟨_, rfl, run_loadVarAgg Try.isAgg52 Try.sizeOf52 (hm.at_ 0 0 rfl) (vs := letZ.toList) rfl (agg_at rfl)⟩, ?_⟩
  exact ⟨rfl, hm.pop⟩
end
end Go.Bd
