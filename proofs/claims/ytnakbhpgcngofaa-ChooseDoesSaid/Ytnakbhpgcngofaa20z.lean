/- Contracts of layer 20: what the document's chooser does. Conditions: as each states. -/
import Derived.Test.Ytnakbhpgcngofaa20y
import Derived.Test.Ytnakbhpgcngofaa20v
namespace Go.Bd
open Go.Proofs
set_option linter.unusedVariables false
set_option maxRecDepth 20000

theorem fields_rvote (u v : Vt) (fs : Array Field) (h : Try.prog.underlying 83 = some (.struct fs)) : fieldsEq Try.prog u.cells.toArray v.cells.toArray fs.toList = some (decide (u = v)) := by
  have h1 := Try.underlying83
  rw [h1] at h
  obtain rfl := TypeDesc.struct.inj (Option.some.inj h)
  have h3 := Try.underlying3
  have h22 := Try.underlying22
  have hd : decide (u = v) = (decide (u.l = v.l) && (decide (u.e = v.e) && (decide (u.z = v.z) && true))) := by
    obtain ⟨a, b, c⟩ := u
    obtain ⟨a', b', c'⟩ := v
    rw [Bool.and_true, ← Bool.decide_and, ← Bool.decide_and]
    exact decide_eq_decide.2 (by simp only [Vt.mk.injEq])
  rw [hd]
  simp [fieldsEq, simpleEq, Vt.cells, h3, h22]
def rHearOk (R : Rc) (frm : Int) (t : Lt) : Bool := decide (t.k = 1 ∧ t.s = 1 ∧ 1 ≤ frm ∧ frm ≤ 7 ∧ frm ≠ R.id ∧ R.round ≤ t.r)
def rRound (R : Rc) (t : Lt) : Rc := if R.round < t.r then rOwn { R with round := t.r } else R
def rNote (R : Rc) (k : Nat) (u : Vt) : Rc := { R with h := updH R.h k u, b := updB R.b k }
def rHear (R : Rc) (frm : Int) (t : Lt) : Bool × Rc :=
  if rHearOk R frm t = true then
    if betterV t.vt (rRound R t).v = true then (true, { rNote (rRound R t) frm.toNat t.vt with v := t.vt, calm := 0 })
    else (decide (R.round < t.r), rNote (rRound R t) frm.toNat t.vt)
  else (false, R)
theorem rHear_no {R : Rc} {frm : Int} {t : Lt} (h : ¬ (t.k = 1 ∧ t.s = 1 ∧ 1 ≤ frm ∧ frm ≤ 7 ∧ frm ≠ R.id ∧ R.round ≤ t.r)) : rHear R frm t = (false, R) := by
  unfold rHear rHearOk
  rw [decide_eq_false h]
  rfl
def rids (R : Rc) : List Int := R.id :: ((List.range 8).filter fun k => decide (1 ≤ k) && (R.b k && decide (R.h k = R.v))).map Int.ofNat
def rTick (R : Rc) : (Int × Bool) × Rc :=
  (if R.v.l ≠ 0 ∧ 2 ≤ IntKind.i64.wrap (R.calm + 1) ∧ allA (R.es.map En.abs) (rids R) = true then (R.v.l, true) else (0, false), { R with calm := IntKind.i64.wrap (R.calm + 1) })
abbrev rIni (id ep zx : Int) (A : Option Addr) (n c : Nat) (es : List En) : Rc := ⟨id, ep, zx, A, n, c, es, 1, v0, fun _ => v0, fun _ => false, 0⟩
def rNew (id ep zx : Int) (A : Option Addr) (n c : Nat) (es : List En) : Rc := rOwn ⟨id, ep, zx, A, n, c, es, 1, v0, fun _ => v0, fun _ => false, 0⟩
def rBegin (R : Rc) (ep zx : Int) (A : Option Addr) (n c : Nat) (es : List En) : Rc := rOwn ⟨R.id, ep, zx, A, n, c, es, IntKind.i64.wrap (R.round + 1), R.v, R.h, R.b, R.calm⟩
theorem rids_mem (R : Rc) (z : Int) : z ∈ rids R ↔ z = R.id ∨ ∃ k : Nat, 1 ≤ k ∧ k < 8 ∧ R.b k = true ∧ R.h k = R.v ∧ z = k := by
  unfold rids
  rw [List.mem_cons]
  refine or_congr_right ?_
  constructor
  · intro h
    obtain ⟨k, hk, rfl⟩ := List.mem_map.1 h
    obtain ⟨h1, h2⟩ := List.mem_filter.1 hk
    rw [Bool.and_eq_true, Bool.and_eq_true, decide_eq_true_eq, decide_eq_true_eq] at h2
    exact ⟨k, h2.1, List.mem_range.1 h1, h2.2.1, h2.2.2, rfl⟩
  · rintro ⟨k, h1, h2, h3, h4, rfl⟩
    refine List.mem_map.2 ⟨k, List.mem_filter.2 ⟨List.mem_range.2 h2, ?_⟩, rfl⟩
    rw [Bool.and_eq_true, Bool.and_eq_true, decide_eq_true_eq, decide_eq_true_eq]
    exact ⟨h1, h3, h4⟩

section
variable {F : Env} {w : World} {Ls : List Blks}
theorem rnew_c {id ep zx : Int} {A : Option Addr} {n c : Nat} {es : List En} (hm : Mem F w Ls) (hn : n ≤ maxLen) (hr : ERow F.heap A n es) :
    Calls Try.prog 10 #[.int .i64 id, .int .i64 ep, .int .i64 zx, .slice A n c] w (Ret fun v w' => ∃ g, v = .tuple #[.pointer (some ⟨g, 0, none⟩), .bool (decide (1 ≤ id ∧ id ≤ 7))] ∧ Mem F w' ([(g, rO (rNew id ep zx A n c es))] :: Ls)) := by
  refine Calls.of_vc Try.func10 rfl Try.ntmps10 rfl ?_
  repeat (first | refine VC.seq ?_ | refine VC.block ?_ | refine VC.skip ?_)
  refine VC.region ?_
  refine VR.pure rfl rfl (p_assignP rfl) ?_
  refine VR.pure rfl rfl (p_assignB rfl) ?_
  refine VR.nil ?_
  repeat (first | refine VC.seq ?_ | refine VC.block ?_ | refine VC.skip ?_)
  refine VC.region ?_
  refine VR.pure rfl rfl (p_moveI rfl) ?_
  refine VR.pure rfl rfl (p_moveI rfl) ?_
  refine VR.pure rfl rfl (p_moveI rfl) ?_
  refine VR.pure rfl rfl (p_moveL rfl) ?_
  refine VR.pure rfl rfl (p_build (vs := [(0, .int _ _), (1, .int _ _), (2, .int _ _), (3, .slice _ _ _), (4, .int _ _)]) bld87_0_1_2_3_4 rfl) ?_
  refine VR.new hm rfl rfl (n_boxG rfl) ?_
  intro g w hm
  refine VR.pure rfl rfl (p_assignP rfl) ?_
  refine VR.nil ?_
  repeat (first | refine VC.seq ?_ | refine VC.block ?_ | refine VC.skip ?_)
  refine VC.region ?_
  refine VR.pure rfl rfl (p_moveP rfl) ?_
  refine VR.call rfl rfl (r_call1 Try.call30 rfl) (rown_c (R := rIni id ep zx A n c es) hm hn hr) ?_
  rintro _ w hm
  refine VR.nil ?_
  repeat (first | refine VC.seq ?_ | refine VC.block ?_ | refine VC.skip ?_)
  refine VC.region ?_
  refine VR.pure rfl rfl (p_moveP rfl) ?_
  refine VR.pure rfl rfl (p_moveI rfl) ?_
  refine VR.pure rfl rfl (p_ge rfl rfl) ?_
  refine VR.pure rfl rfl (p_moveB rfl) ?_
  refine VR.splitD 22 rfl (fun q3 => ?_) (fun q3 => ?_)
  refine VR.pureG rfl rfl (p_moveI rfl) ?_
  refine VR.pureG rfl rfl (p_le rfl rfl) ?_
  refine VR.pure rfl rfl (p_pickT rfl rfl) ?_
  refine VR.pure rfl rfl (p_assignP rfl) ?_
  refine VR.pure rfl rfl (p_assignB rfl) ?_
  refine VR.nil ?_
  rotate_left 1
  refine VR.pass rfl rfl ?_
  refine VR.pass rfl rfl ?_
  refine VR.pure rfl rfl (p_pickF rfl rfl) ?_
  refine VR.pure rfl rfl (p_assignP rfl) ?_
  refine VR.pure rfl rfl (p_assignB rfl) ?_
  refine VR.nil ?_
  rotate_left 1
  · repeat (first | refine VC.seq ?_ | refine VC.block ?_ | refine VC.skip ?_)
    refine VC.ret ⟨_, ResOf.r2 (v := .pointer _) (u := .bool _) rfl rfl rfl, ?_⟩
    exact ⟨g, by rw [decide_eq_decide.2 (show id ≤ 7 ↔ 1 ≤ id ∧ id ≤ 7 by omega)], hm⟩
  · repeat (first | refine VC.seq ?_ | refine VC.block ?_ | refine VC.skip ?_)
    refine VC.ret ⟨_, ResOf.r2 (v := .pointer _) (u := .bool _) rfl rfl rfl, ?_⟩
    exact ⟨g, by rw [decide_eq_false (show ¬ (1 ≤ id ∧ id ≤ 7) by omega)], hm⟩
theorem rbegin_c {g : Nat} {R : Rc} {ep zx : Int} {A : Option Addr} {n c : Nat} {es : List En} (hm : Mem F w ([(g, rO R)] :: Ls)) (hn : n ≤ maxLen) (hr : ERow F.heap A n es) :
    Calls Try.prog 20 #[.pointer (some ⟨g, 0, none⟩), .int .i64 ep, .int .i64 zx, .slice A n c] w (Ret fun _ w' => Mem F w' ([(g, rO (rBegin R ep zx A n c es))] :: Ls)) := by
  obtain ⟨rid, rep, rzx, rA, rn, rc, res, round, v, h, b, calm⟩ := R
  replace hm : Mem F w ([(g, .cells (rcl rid rep rzx rA rn rc round v h b calm) 87 (0, 0))] :: Ls) := hm
  refine Calls.of_vc Try.func20 rfl Try.ntmps20 rfl ?_
  repeat (first | refine VC.seq ?_ | refine VC.block ?_ | refine VC.skip ?_)
  refine VC.region ?_
  refine VR.pure rfl rfl (p_moveP rfl) ?_
  refine VR.pure rfl rfl (p_moveP rfl) ?_
  refine VR.pure rfl rfl (p_moveP rfl) ?_
  refine VR.pure rfl rfl (p_moveI rfl) ?_
  refine VR.pure rfl rfl (p_moveI rfl) ?_
  refine VR.pure rfl rfl (p_moveL rfl) ?_
  refine VR.pure rfl rfl (p_nilCheck rfl) ?_
  refine VR.pure rfl rfl (p_field (fo := 1) Try.underlying87 rfl Try.sizeOf3 rfl rfl rfl) ?_
  refine VR.store (cs' := (rcl rid ep rzx rA rn rc round v h b calm)) (v := .int _ _) Try.sizeOf3 rfl rfl rfl rfl rfl hm 0 0 rfl (Nat.ble_eq.mp rfl) rfl ?_
  intro w hm
  refine VR.pure rfl rfl (p_nilCheck rfl) ?_
  refine VR.pure rfl rfl (p_field (fo := 2) Try.underlying87 rfl Try.sizeOf22 rfl rfl rfl) ?_
  refine VR.store (cs' := (rcl rid ep zx rA rn rc round v h b calm)) (v := .int _ _) Try.sizeOf22 rfl rfl rfl rfl rfl hm 0 0 rfl (Nat.ble_eq.mp rfl) rfl ?_
  intro w hm
  refine VR.pure rfl rfl (p_nilCheck rfl) ?_
  refine VR.pure rfl rfl (p_field (fo := 3) Try.underlying87 rfl Try.sizeOf23 rfl rfl rfl) ?_
  refine VR.store (cs' := (rcl rid ep zx A n c round v h b calm)) (v := .slice _ _ _) Try.sizeOf23 rfl rfl rfl rfl rfl hm 0 0 rfl (Nat.ble_eq.mp rfl) rfl ?_
  intro w hm
  refine VR.nil ?_
  repeat (first | refine VC.seq ?_ | refine VC.block ?_ | refine VC.skip ?_)
  refine VC.region ?_
  refine VR.pure rfl rfl (p_moveP rfl) ?_
  refine VR.pure rfl rfl (p_nilCheck rfl) ?_
  refine VR.pure rfl rfl (p_field (fo := 4) Try.underlying87 rfl Try.sizeOf3 rfl rfl rfl) ?_
  refine VR.val rfl rfl (r_load (v := .int _ _) Try.isAgg3 rfl (hm.at_ 0 0 rfl) rfl) ?_
  refine VR.pure rfl rfl (p_add rfl rfl) ?_
  refine VR.pure rfl rfl (p_nilCheck rfl) ?_
  refine VR.pure rfl rfl (p_field (fo := 4) Try.underlying87 rfl Try.sizeOf3 rfl rfl rfl) ?_
  refine VR.store (cs' := (rcl rid ep zx A n c (IntKind.i64.wrap (round + 1)) v h b calm)) (v := .int _ _) Try.sizeOf3 rfl rfl rfl rfl rfl hm 0 0 rfl (Nat.ble_eq.mp rfl) rfl ?_
  intro w hm
  refine VR.nil ?_
  repeat (first | refine VC.seq ?_ | refine VC.block ?_ | refine VC.skip ?_)
  refine VC.region ?_
  refine VR.pure rfl rfl (p_moveP rfl) ?_
  refine VR.call rfl rfl (r_call1 Try.call30 rfl) (rown_c (R := ⟨rid, ep, zx, A, n, c, es, IntKind.i64.wrap (round + 1), v, h, b, calm⟩) hm hn hr) ?_
  rintro _ w hm
  refine VR.nil ?_
  repeat (first | refine VC.seq ?_ | refine VC.block ?_ | refine VC.skip ?_)
  exact ⟨_, ResOf.r0 rfl, hm⟩
theorem rvote_c {g : Nat} {R : Rc} (hm : Mem F w ([(g, rO R)] :: Ls)) :
    Calls Try.prog 23 #[.pointer (some ⟨g, 0, none⟩)] w (Ret fun v w' => v = .agg (letA R.round R.v) ∧ Mem F w' ([(g, rO R)] :: Ls)) := by
  obtain ⟨rid, rep, rzx, rA, rn, rc, res, round, v, h, b, calm⟩ := R
  replace hm : Mem F w ([(g, .cells (rcl rid rep rzx rA rn rc round v h b calm) 87 (0, 0))] :: Ls) := hm
  refine Calls.of_vc Try.func23 rfl Try.ntmps23 rfl ?_
  repeat (first | refine VC.seq ?_ | refine VC.block ?_ | refine VC.skip ?_)
  refine VC.region ?_
  refine VR.new hm rfl rfl (n_allocG Try.zeroValue52) ?_
  intro b2 w hm
  refine VR.nil ?_
  repeat (first | refine VC.seq ?_ | refine VC.block ?_ | refine VC.skip ?_)
  refine VC.loud (Kept F ([(g, .cells (rcl rid rep rzx rA rn rc round v h b calm) 87 (0, 0))] :: [])) [20] rfl (by kernel_rfl) (Kept.one hm.drew 1 rfl) ?_
  replace hm := hm.drew
  refine VL.pure rfl rfl rfl (p_moveP rfl) ?_
  refine VL.pure rfl rfl rfl (p_nilCheck rfl) ?_
  refine VL.pure rfl rfl rfl (p_field (fo := 4) Try.underlying87 rfl Try.sizeOf3 rfl rfl rfl) ?_
  refine VL.read rfl rfl rfl (fun w' hw' => r_load (v := .int _ _) Try.isAgg3 rfl (hw'.at_ 0 0 rfl) rfl) ?_
  refine VL.pure rfl rfl rfl (p_moveP rfl) ?_
  refine VL.pure rfl rfl rfl (p_nilCheck rfl) ?_
  refine VL.pure rfl rfl rfl (p_field (fo := 5) Try.underlying87 rfl Try.sizeOf83 rfl rfl rfl) ?_
  refine VL.pure rfl rfl rfl (p_field (fo := 0) Try.underlying83 rfl Try.sizeOf3 rfl rfl rfl) ?_
  refine VL.read rfl rfl rfl (fun w' hw' => r_load (v := .int _ _) Try.isAgg3 rfl (hw'.at_ 0 0 rfl) rfl) ?_
  refine VL.pure rfl rfl rfl (p_moveP rfl) ?_
  refine VL.pure rfl rfl rfl (p_nilCheck rfl) ?_
  refine VL.pure rfl rfl rfl (p_field (fo := 5) Try.underlying87 rfl Try.sizeOf83 rfl rfl rfl) ?_
  refine VL.pure rfl rfl rfl (p_field (fo := 1) Try.underlying83 rfl Try.sizeOf3 rfl rfl rfl) ?_
  refine VL.read rfl rfl rfl (fun w' hw' => r_load (v := .int _ _) Try.isAgg3 rfl (hw'.at_ 0 0 rfl) rfl) ?_
  refine VL.pure rfl rfl rfl (p_moveP rfl) ?_
  refine VL.pure rfl rfl rfl (p_nilCheck rfl) ?_
  refine VL.pure rfl rfl rfl (p_field (fo := 5) Try.underlying87 rfl Try.sizeOf83 rfl rfl rfl) ?_
  refine VL.pure rfl rfl rfl (p_field (fo := 2) Try.underlying83 rfl Try.sizeOf22 rfl rfl rfl) ?_
  refine VL.read rfl rfl rfl (fun w' hw' => r_load (v := .int _ _) Try.isAgg22 rfl (hw'.at_ 0 0 rfl) rfl) ?_
  refine VL.pure rfl rfl rfl (p_build (vs := [(0, .int _ _), (1, .int _ _), (2, .int _ _), (3, .int _ _), (4, .int _ _), (7, .int _ _)]) bld52_0_1_2_3_4_7 rfl) ?_
  refine VL.store (cs' := (letA round v)) (v := .agg _) Try.sizeOf52 rfl rfl rfl rfl rfl rfl hm 0 0 rfl (Nat.ble_eq.mp rfl) (lay_whole rfl) (fun w' hm' => Kept.one hm' 1 rfl) ?_
  intro w hm
  refine VL.nil ?_
  repeat (first | refine VC.seq ?_ | refine VC.block ?_ | refine VC.skip ?_)
  refine VC.ret ⟨_, ResOf.r1 (v := .agg _) rfl ⟨_, rfl, run_loadVarAgg Try.isAgg52 Try.sizeOf52 (hm.at_ 0 0 rfl) (vs := (letA round v).toList) rfl (agg_at rfl)⟩, ?_⟩
  exact ⟨rfl, hm.pop⟩
set_option maxHeartbeats 4000000 in
theorem rhear_c {g : Nat} {R : Rc} {frm : Int} {cs : Array Value} {t : Lt} (hm : Mem F w ([(g, rO R)] :: Ls)) (ht : LetAt cs t) (hn : R.n ≤ maxLen) (hr : ERow F.heap R.A R.n R.es) :
    Calls Try.prog 16 #[.pointer (some ⟨g, 0, none⟩), .int .i64 frm, .agg cs] w (Ret fun v w' => v = .bool (rHear R frm t).1 ∧ Mem F w' ([(g, rO (rHear R frm t).2)] :: Ls)) := by
  have hR : R = ⟨R.id, R.ep, R.zx, R.A, R.n, R.c, R.es, R.round, R.v, R.h, R.b, R.calm⟩ := rfl
  generalize R.id = id, R.ep = ep, R.zx = zx, R.A = A, R.n = n, R.c = c, R.es = es, R.round = round, R.v = v, R.h = h, R.b = b, R.calm = calm at hR hn hr
  subst hR
  replace hm : Mem F w ([(g, .cells (rcl id ep zx A n c round v h b calm) 87 (0, 0))] :: Ls) := hm
  refine Calls.of_vc Try.func16 rfl Try.ntmps16 rfl ?_
  repeat (first | refine VC.seq ?_ | refine VC.block ?_ | refine VC.skip ?_)
  refine VC.region ?_
  refine VR.new hm rfl rfl (n_boxG rfl) ?_
  intro b5 w hm
  refine VR.pure rfl rfl (p_assignB rfl) ?_
  refine VR.nil ?_
  obtain ⟨G, hu, hm, hb5⟩ := hm.freeze
  replace hb5 := hb5 _ (.head _)
  repeat (first | refine VC.seq ?_ | refine VC.block ?_ | refine VC.skip ?_)
  refine VC.loud (Kept G ([(g, .cells (rcl id ep zx A n c round v h b calm) 87 (0, 0))] :: [])) [] rfl (by kernel_rfl) (Kept.one hm.drew 0 rfl) ?_
  replace hm := hm.drew
  refine VL.pure rfl rfl rfl (p_field (fo := 0) Try.underlying52 rfl Try.sizeOf34 rfl rfl rfl) ?_
  refine VL.read rfl rfl rfl (fun w' hw' => r_load (v := .int _ _) Try.isAgg34 rfl (hw'.fix _ _ hb5) ht.k) ?_
  refine VL.pure rfl rfl rfl (p_ne rfl rfl) ?_
  refine VL.pure rfl rfl rfl (p_moveB rfl) ?_
  refine VL.splitD 12 rfl (fun q3 => ?_) (fun q3 => ?_)
  refine VL.pass rfl rfl ?_
  refine VL.pass rfl rfl ?_
  refine VL.pass rfl rfl ?_
  refine VL.pure rfl rfl rfl (p_pickT rfl rfl) ?_
  refine VL.pure rfl rfl rfl (p_moveB rfl) ?_
  refine VL.pass rfl rfl ?_
  refine VL.pass rfl rfl ?_
  refine VL.pure rfl rfl rfl (p_pickT rfl rfl) ?_
  refine VL.pure rfl rfl rfl (p_moveB rfl) ?_
  refine VL.pass rfl rfl ?_
  refine VL.pass rfl rfl ?_
  refine VL.pure rfl rfl rfl (p_pickT rfl rfl) ?_
  refine VL.pure rfl rfl rfl (p_moveB rfl) ?_
  refine VL.pass rfl rfl ?_
  refine VL.pass rfl rfl ?_
  refine VL.pass rfl rfl ?_
  refine VL.pass rfl rfl ?_
  refine VL.pass rfl rfl ?_
  refine VL.pass rfl rfl ?_
  refine VL.pure rfl rfl rfl (p_pickT rfl rfl) ?_
  refine VL.pure rfl rfl rfl (p_moveB rfl) ?_
  refine VL.pass rfl rfl ?_
  refine VL.pass rfl rfl ?_
  refine VL.pass rfl rfl ?_
  refine VL.pass rfl rfl ?_
  refine VL.pass rfl rfl ?_
  refine VL.pass rfl rfl ?_
  refine VL.pass rfl rfl ?_
  refine VL.pure rfl rfl rfl (p_pickT rfl rfl) ?_
  refine VL.nil ?_
  rotate_left 1
  refine VL.pureG rfl rfl rfl (p_field (fo := 1) Try.underlying52 rfl Try.sizeOf35 rfl rfl rfl) ?_
  refine VL.readG rfl rfl rfl (fun w' hw' => r_load (v := .int _ _) Try.isAgg35 rfl (hw'.fix _ _ hb5) ht.s) ?_
  refine VL.pureG rfl rfl rfl (p_ne rfl rfl) ?_
  refine VL.pure rfl rfl rfl (p_pickF rfl rfl) ?_
  refine VL.pure rfl rfl rfl (p_moveB rfl) ?_
  refine VL.splitD 17 rfl (fun q8 => ?_) (fun q8 => ?_)
  refine VL.pass rfl rfl ?_
  refine VL.pass rfl rfl ?_
  refine VL.pure rfl rfl rfl (p_pickT rfl rfl) ?_
  refine VL.pure rfl rfl rfl (p_moveB rfl) ?_
  refine VL.pass rfl rfl ?_
  refine VL.pass rfl rfl ?_
  refine VL.pure rfl rfl rfl (p_pickT rfl rfl) ?_
  refine VL.pure rfl rfl rfl (p_moveB rfl) ?_
  refine VL.pass rfl rfl ?_
  refine VL.pass rfl rfl ?_
  refine VL.pass rfl rfl ?_
  refine VL.pass rfl rfl ?_
  refine VL.pass rfl rfl ?_
  refine VL.pass rfl rfl ?_
  refine VL.pure rfl rfl rfl (p_pickT rfl rfl) ?_
  refine VL.pure rfl rfl rfl (p_moveB rfl) ?_
  refine VL.pass rfl rfl ?_
  refine VL.pass rfl rfl ?_
  refine VL.pass rfl rfl ?_
  refine VL.pass rfl rfl ?_
  refine VL.pass rfl rfl ?_
  refine VL.pass rfl rfl ?_
  refine VL.pass rfl rfl ?_
  refine VL.pure rfl rfl rfl (p_pickT rfl rfl) ?_
  refine VL.nil ?_
  rotate_left 1
  refine VL.pureG rfl rfl rfl (p_moveI rfl) ?_
  refine VL.pureG rfl rfl rfl (p_lt rfl rfl) ?_
  refine VL.pure rfl rfl rfl (p_pickF rfl rfl) ?_
  refine VL.pure rfl rfl rfl (p_moveB rfl) ?_
  refine VL.splitD 21 rfl (fun q12 => ?_) (fun q12 => ?_)
  refine VL.pass rfl rfl ?_
  refine VL.pass rfl rfl ?_
  refine VL.pure rfl rfl rfl (p_pickT rfl rfl) ?_
  refine VL.pure rfl rfl rfl (p_moveB rfl) ?_
  refine VL.pass rfl rfl ?_
  refine VL.pass rfl rfl ?_
  refine VL.pass rfl rfl ?_
  refine VL.pass rfl rfl ?_
  refine VL.pass rfl rfl ?_
  refine VL.pass rfl rfl ?_
  refine VL.pure rfl rfl rfl (p_pickT rfl rfl) ?_
  refine VL.pure rfl rfl rfl (p_moveB rfl) ?_
  refine VL.pass rfl rfl ?_
  refine VL.pass rfl rfl ?_
  refine VL.pass rfl rfl ?_
  refine VL.pass rfl rfl ?_
  refine VL.pass rfl rfl ?_
  refine VL.pass rfl rfl ?_
  refine VL.pass rfl rfl ?_
  refine VL.pure rfl rfl rfl (p_pickT rfl rfl) ?_
  refine VL.nil ?_
  rotate_left 1
  refine VL.pureG rfl rfl rfl (p_moveI rfl) ?_
  refine VL.pureG rfl rfl rfl (p_gt rfl rfl) ?_
  refine VL.pure rfl rfl rfl (p_pickF rfl rfl) ?_
  refine VL.pure rfl rfl rfl (p_moveB rfl) ?_
  refine VL.splitD 25 rfl (fun q16 => ?_) (fun q16 => ?_)
  refine VL.pass rfl rfl ?_
  refine VL.pass rfl rfl ?_
  refine VL.pass rfl rfl ?_
  refine VL.pass rfl rfl ?_
  refine VL.pass rfl rfl ?_
  refine VL.pass rfl rfl ?_
  refine VL.pure rfl rfl rfl (p_pickT rfl rfl) ?_
  refine VL.pure rfl rfl rfl (p_moveB rfl) ?_
  refine VL.pass rfl rfl ?_
  refine VL.pass rfl rfl ?_
  refine VL.pass rfl rfl ?_
  refine VL.pass rfl rfl ?_
  refine VL.pass rfl rfl ?_
  refine VL.pass rfl rfl ?_
  refine VL.pass rfl rfl ?_
  refine VL.pure rfl rfl rfl (p_pickT rfl rfl) ?_
  refine VL.nil ?_
  rotate_left 1
  refine VL.pureG rfl rfl rfl (p_moveI rfl) ?_
  refine VL.pureG rfl rfl rfl (p_moveP rfl) ?_
  refine VL.pureG rfl rfl rfl (p_nilCheck rfl) ?_
  refine VL.pureG rfl rfl rfl (p_field (fo := 0) Try.underlying87 rfl Try.sizeOf3 rfl rfl rfl) ?_
  refine VL.readG rfl rfl rfl (fun w' hw' => r_load (v := .int _ _) Try.isAgg3 rfl (hw'.at_ 0 0 rfl) rfl) ?_
  refine VL.pureG rfl rfl rfl (p_eq rfl rfl) ?_
  refine VL.pure rfl rfl rfl (p_pickF rfl rfl) ?_
  refine VL.pure rfl rfl rfl (p_moveB rfl) ?_
  refine VL.splitD 33 rfl (fun q24 => ?_) (fun q24 => ?_)
  refine VL.pass rfl rfl ?_
  refine VL.pass rfl rfl ?_
  refine VL.pass rfl rfl ?_
  refine VL.pass rfl rfl ?_
  refine VL.pass rfl rfl ?_
  refine VL.pass rfl rfl ?_
  refine VL.pass rfl rfl ?_
  refine VL.pure rfl rfl rfl (p_pickT rfl rfl) ?_
  refine VL.nil ?_
  rotate_left 1
  refine VL.pureG rfl rfl rfl (p_field (fo := 2) Try.underlying52 rfl Try.sizeOf3 rfl rfl rfl) ?_
  refine VL.readG rfl rfl rfl (fun w' hw' => r_load (v := .int _ _) Try.isAgg3 rfl (hw'.fix _ _ hb5) ht.r) ?_
  refine VL.pureG rfl rfl rfl (p_moveP rfl) ?_
  refine VL.pureG rfl rfl rfl (p_nilCheck rfl) ?_
  refine VL.pureG rfl rfl rfl (p_field (fo := 4) Try.underlying87 rfl Try.sizeOf3 rfl rfl rfl) ?_
  refine VL.readG rfl rfl rfl (fun w' hw' => r_load (v := .int _ _) Try.isAgg3 rfl (hw'.at_ 0 0 rfl) rfl) ?_
  refine VL.pureG rfl rfl rfl (p_lt rfl rfl) ?_
  refine VL.pure rfl rfl rfl (p_pickF rfl rfl) ?_
  refine VL.nil ?_
  rotate_left 1
  · repeat (first | refine VC.seq ?_ | refine VC.block ?_ | refine VC.skip ?_)
    refine VC.condT rfl rfl ?_
    repeat (first | refine VC.seq ?_ | refine VC.block ?_ | refine VC.skip ?_)
    refine VC.region ?_
    refine VR.pure rfl rfl (p_assignB rfl) ?_
    refine VR.nil ?_
    repeat (first | refine VC.seq ?_ | refine VC.block ?_ | refine VC.skip ?_)
    refine VC.ret ⟨_, ResOf.r1 (v := .bool _) rfl rfl, ?_⟩
    rw [rHear_no (by dsimp only; omega)]
    exact ⟨rfl, hm.shrink hu⟩
  · repeat (first | refine VC.seq ?_ | refine VC.block ?_ | refine VC.skip ?_)
    refine VC.condT rfl rfl ?_
    repeat (first | refine VC.seq ?_ | refine VC.block ?_ | refine VC.skip ?_)
    refine VC.region ?_
    refine VR.pure rfl rfl (p_assignB rfl) ?_
    refine VR.nil ?_
    repeat (first | refine VC.seq ?_ | refine VC.block ?_ | refine VC.skip ?_)
    refine VC.ret ⟨_, ResOf.r1 (v := .bool _) rfl rfl, ?_⟩
    rw [rHear_no (by dsimp only; omega)]
    exact ⟨rfl, hm.shrink hu⟩
  · repeat (first | refine VC.seq ?_ | refine VC.block ?_ | refine VC.skip ?_)
    refine VC.condT rfl rfl ?_
    repeat (first | refine VC.seq ?_ | refine VC.block ?_ | refine VC.skip ?_)
    refine VC.region ?_
    refine VR.pure rfl rfl (p_assignB rfl) ?_
    refine VR.nil ?_
    repeat (first | refine VC.seq ?_ | refine VC.block ?_ | refine VC.skip ?_)
    refine VC.ret ⟨_, ResOf.r1 (v := .bool _) rfl rfl, ?_⟩
    rw [rHear_no (by dsimp only; omega)]
    exact ⟨rfl, hm.shrink hu⟩
  · repeat (first | refine VC.seq ?_ | refine VC.block ?_ | refine VC.skip ?_)
    refine VC.condT rfl rfl ?_
    repeat (first | refine VC.seq ?_ | refine VC.block ?_ | refine VC.skip ?_)
    refine VC.region ?_
    refine VR.pure rfl rfl (p_assignB rfl) ?_
    refine VR.nil ?_
    repeat (first | refine VC.seq ?_ | refine VC.block ?_ | refine VC.skip ?_)
    refine VC.ret ⟨_, ResOf.r1 (v := .bool _) rfl rfl, ?_⟩
    rw [rHear_no (by dsimp only; omega)]
    exact ⟨rfl, hm.shrink hu⟩
  · repeat (first | refine VC.seq ?_ | refine VC.block ?_ | refine VC.skip ?_)
    refine VC.condT rfl rfl ?_
    repeat (first | refine VC.seq ?_ | refine VC.block ?_ | refine VC.skip ?_)
    refine VC.region ?_
    refine VR.pure rfl rfl (p_assignB rfl) ?_
    refine VR.nil ?_
    repeat (first | refine VC.seq ?_ | refine VC.block ?_ | refine VC.skip ?_)
    refine VC.ret ⟨_, ResOf.r1 (v := .bool _) rfl rfl, ?_⟩
    rw [rHear_no (by dsimp only; omega)]
    exact ⟨rfl, hm.shrink hu⟩
  repeat (first | refine VC.seq ?_ | refine VC.block ?_ | refine VC.skip ?_)
  refine VC.condD rfl (fun h32 => ?_) (fun h32 => ?_)
  · repeat (first | refine VC.seq ?_ | refine VC.block ?_ | refine VC.skip ?_)
    refine VC.region ?_
    refine VR.pure rfl rfl (p_assignB rfl) ?_
    refine VR.nil ?_
    repeat (first | refine VC.seq ?_ | refine VC.block ?_ | refine VC.skip ?_)
    refine VC.ret ⟨_, ResOf.r1 (v := .bool _) rfl rfl, ?_⟩
    rw [rHear_no (by dsimp only; omega)]
    exact ⟨rfl, hm.shrink hu⟩
  have hcond : t.k = 1 ∧ t.s = 1 ∧ 1 ≤ frm ∧ frm ≤ 7 ∧ frm ≠ id ∧ round ≤ t.r := by omega
  obtain ⟨kf, rfl, hk8⟩ : ∃ q : Nat, frm = q ∧ q < 8 := ⟨frm.toNat, by omega, by omega⟩
  have hok : rHearOk ⟨id, ep, zx, A, n, c, es, round, v, h, b, calm⟩ kf t = true := decide_eq_true hcond
  repeat (first | refine VC.seq ?_ | refine VC.block ?_ | refine VC.skip ?_)
  refine VC.loud (Kept G ([(g, .cells (rcl id ep zx A n c round v h b calm) 87 (0, 0))] :: [])) [] rfl (by kernel_rfl) (Kept.one hm.drew 0 rfl) ?_
  replace hm := hm.drew
  refine VL.pure rfl rfl rfl (p_field (fo := 2) Try.underlying52 rfl Try.sizeOf3 rfl rfl rfl) ?_
  refine VL.read rfl rfl rfl (fun w' hw' => r_load (v := .int _ _) Try.isAgg3 rfl (hw'.fix _ _ hb5) ht.r) ?_
  refine VL.pure rfl rfl rfl (p_moveP rfl) ?_
  refine VL.pure rfl rfl rfl (p_nilCheck rfl) ?_
  refine VL.pure rfl rfl rfl (p_field (fo := 4) Try.underlying87 rfl Try.sizeOf3 rfl rfl rfl) ?_
  refine VL.read rfl rfl rfl (fun w' hw' => r_load (v := .int _ _) Try.isAgg3 rfl (hw'.at_ 0 0 rfl) rfl) ?_
  refine VL.pure rfl rfl rfl (p_gt rfl rfl) ?_
  refine VL.pure rfl rfl rfl (p_assignB rfl) ?_
  refine VL.nil ?_
  repeat (first | refine VC.seq ?_ | refine VC.block ?_ | refine VC.skip ?_)
  refine VC.region ?_
  refine VR.pure rfl rfl (p_moveB rfl) ?_
  refine VR.nil ?_
  repeat (first | refine VC.seq ?_ | refine VC.block ?_ | refine VC.skip ?_)
  refine VC.meet (σ := Rc) (fun s => [(0, .pointer (some ⟨g, 0, none⟩)), (1, .int .i64 kf), (5, .pointer (some ⟨b5, 0, none⟩)), (7, .bool (decide (round < t.r)))])
    (fun s w => Mem G w ([(g, rO s)] :: Ls) ∧ s = rRound ⟨id, ep, zx, A, n, c, es, round, v, h, b, calm⟩ t) ?_ ?_
  · repeat (first | refine VC.seq ?_ | refine VC.block ?_ | refine VC.skip ?_)
    refine VC.condD rfl (fun h3 => ?_) (fun h3 => ?_)
    · repeat (first | refine VC.seq ?_ | refine VC.block ?_ | refine VC.skip ?_)
      refine VC.region ?_
      refine VR.pure rfl rfl (p_moveP rfl) ?_
      refine VR.pure rfl rfl (p_field (fo := 2) Try.underlying52 rfl Try.sizeOf3 rfl rfl rfl) ?_
      refine VR.val rfl rfl (r_load (v := .int _ _) Try.isAgg3 rfl (hm.fix _ _ hb5) ht.r) ?_
      refine VR.pure rfl rfl (p_nilCheck rfl) ?_
      refine VR.pure rfl rfl (p_field (fo := 4) Try.underlying87 rfl Try.sizeOf3 rfl rfl rfl) ?_
      refine VR.store (cs' := (rcl id ep zx A n c t.r v h b calm)) (v := .int _ _) Try.sizeOf3 rfl rfl rfl rfl rfl hm 0 0 rfl (Nat.ble_eq.mp rfl) rfl ?_
      intro w hm
      refine VR.nil ?_
      repeat (first | refine VC.seq ?_ | refine VC.block ?_ | refine VC.skip ?_)
      refine VC.region ?_
      refine VR.pure rfl rfl (p_moveP rfl) ?_
      refine VR.call rfl rfl (r_call1 Try.call30 rfl) (rown_c (R := ⟨id, ep, zx, A, n, c, es, t.r, v, h, b, calm⟩) hm hn (hr.mono hu.heap)) ?_
      rintro _ w hm
      refine VR.nil ?_
      repeat (first | refine VC.seq ?_ | refine VC.block ?_ | refine VC.skip ?_)
      refine ⟨_, ⟨rfl, rfl, rfl, rfl, trivial⟩, hm, ?_⟩
      unfold rRound
      rw [if_pos h3]
    · repeat (first | refine VC.seq ?_ | refine VC.block ?_ | refine VC.skip ?_)
      refine ⟨⟨id, ep, zx, A, n, c, es, round, v, h, b, calm⟩, ⟨rfl, rfl, rfl, rfl, trivial⟩, hm, ?_⟩
      unfold rRound
      rw [if_neg h3]
  clear hm
  rintro S A1 w ⟨hm, hS⟩
  obtain ⟨id1, ep1, zx1, A1', n1, c1, es1, round1, v1, h1, b1, calm1⟩ := S
  replace hm : Mem G w ([(g, .cells (rcl id1 ep1 zx1 A1' n1 c1 round1 v1 h1 b1 calm1) 87 (0, 0))] :: Ls) := hm
  repeat (first | refine VC.seq ?_ | refine VC.block ?_ | refine VC.skip ?_)
  refine VC.region ?_
  refine VR.pure rfl rfl (p_field (fo := 3) Try.underlying52 rfl Try.sizeOf3 rfl rfl rfl) ?_
  refine VR.val rfl rfl (r_load (v := .int _ _) Try.isAgg3 rfl (hm.fix _ _ hb5) ht.l) ?_
  refine VR.pure rfl rfl (p_field (fo := 4) Try.underlying52 rfl Try.sizeOf3 rfl rfl rfl) ?_
  refine VR.val rfl rfl (r_load (v := .int _ _) Try.isAgg3 rfl (hm.fix _ _ hb5) ht.e) ?_
  refine VR.pure rfl rfl (p_field (fo := 7) Try.underlying52 rfl Try.sizeOf22 rfl rfl rfl) ?_
  refine VR.val rfl rfl (r_load (v := .int _ _) Try.isAgg22 rfl (hm.fix _ _ hb5) ht.z) ?_
  refine VR.pure rfl rfl (p_build (vs := [(0, .int _ _), (1, .int _ _), (2, .int _ _)]) bld83_0_1_2 rfl) ?_
  refine VR.new hm rfl rfl (n_allocG Try.zeroValue83) ?_
  intro b8 w hm
  refine VR.store (cs' := #[.int .i64 t.l, .int .i64 t.e, .int .i64 t.z]) (v := .agg _) Try.sizeOf83 rfl rfl rfl rfl rfl hm 0 0 rfl (Nat.ble_eq.mp rfl) rfl ?_
  intro w hm
  refine VR.nil ?_
  obtain ⟨G2, hu2, hm, hb8⟩ := hm.freeze
  replace hb8 := hb8 _ (.head _)
  have hput := rc_put ⟨id1, ep1, zx1, A1', n1, c1, es1, round1, v1, h1, b1, calm1⟩ t.vt kf hk8
  have hmark := rc_mark ⟨id1, ep1, zx1, A1', n1, c1, es1, round1, v1, updH h1 kf t.vt, b1, calm1⟩ kf hk8
  repeat (first | refine VC.seq ?_ | refine VC.block ?_ | refine VC.skip ?_)
  refine VC.loud (Kept G2 []) [8, 12] rfl (by kernel_rfl) (Kept.of0 hm.drew) ?_
  replace hm := hm.drew
  refine VL.pure rfl rfl rfl (p_moveP rfl) ?_
  refine VL.pure rfl rfl rfl (p_moveI rfl) ?_
  refine VL.pure rfl rfl rfl (p_moveP rfl) ?_
  refine VL.pure rfl rfl rfl (p_moveI rfl) ?_
  refine VL.read rfl rfl rfl (fun w' hw' => r_loadAgg (vs := [.int .i64 t.l, .int .i64 t.e, .int .i64 t.z]) Try.isAgg83 Try.sizeOf83 rfl (hw'.fix _ _ hb8) rfl (agg_at rfl)) ?_
  refine VL.pure rfl rfl rfl (p_nilCheck rfl) ?_
  refine VL.pure rfl rfl rfl (p_field (fo := 8) Try.underlying87 rfl Try.sizeOf84 rfl rfl rfl) ?_
  refine VL.pure rfl rfl rfl (p_idxA Try.underlying84 Try.sizeOf83 rfl rfl hk8) ?_
  refine VL.store (cs' := (rcl id1 ep1 zx1 A1' n1 c1 round1 v1 (updH h1 kf t.vt) b1 calm1)) (v := .agg _) Try.sizeOf83 rfl rfl rfl rfl rfl rfl hm 0 0 rfl (by show 0 + 8 + kf * 3 + 3 ≤ 41; omega) hput (fun w' hm' => Kept.of0 hm') ?_
  intro w hm
  refine VL.pure rfl rfl rfl (p_nilCheck rfl) ?_
  refine VL.pure rfl rfl rfl (p_field (fo := 32) Try.underlying87 rfl Try.sizeOf85 rfl rfl rfl) ?_
  refine VL.pure rfl rfl rfl (p_idxA Try.underlying85 Try.sizeOf4 rfl rfl hk8) ?_
  refine VL.store (cs' := (rcl id1 ep1 zx1 A1' n1 c1 round1 v1 (updH h1 kf t.vt) (updB b1 kf) calm1)) (v := .bool _) Try.sizeOf4 rfl rfl rfl rfl rfl rfl hm 0 0 rfl (by show 0 + 32 + kf * 1 + 1 ≤ 41; omega) hmark (fun w' hm' => Kept.of0 hm') ?_
  intro w hm
  refine VL.nil ?_
  repeat (first | refine VC.seq ?_ | refine VC.block ?_ | refine VC.skip ?_)
  refine VC.loud (Kept G2 ([(g, .cells (rcl id1 ep1 zx1 A1' n1 c1 round1 v1 (updH h1 kf t.vt) (updB b1 kf) calm1) 87 (0, 0))] :: [])) [5] rfl (by kernel_rfl) (Kept.one hm.drew 0 rfl) ?_
  replace hm := hm.drew
  refine VL.read rfl rfl rfl (fun w' hw' => r_loadAgg (vs := [.int .i64 t.l, .int .i64 t.e, .int .i64 t.z]) Try.isAgg83 Try.sizeOf83 rfl (hw'.fix _ _ hb8) rfl (agg_at rfl)) ?_
  refine VL.pure rfl rfl rfl (p_moveP rfl) ?_
  refine VL.pure rfl rfl rfl (p_nilCheck rfl) ?_
  refine VL.pure rfl rfl rfl (p_field (fo := 5) Try.underlying87 rfl Try.sizeOf83 rfl rfl rfl) ?_
  refine VL.read rfl rfl rfl (fun w' hw' => r_loadAgg (vs := [.int .i64 v1.l, .int .i64 v1.e, .int .i64 v1.z]) Try.isAgg83 Try.sizeOf83 rfl (hw'.at_ 0 0 rfl) rfl (agg_at rfl)) ?_
  refine VL.call rfl rfl rfl (r_call2 Try.call38 rfl rfl) (rbetter_c (v := t.vt) (u := v1) hm) ?_
  rintro _ w ⟨rfl, hm⟩
  refine ⟨Kept.one hm 0 rfl, ?_⟩
  refine VL.nil ?_
  by_cases hb : betterV t.vt v1 = true
  · repeat (first | refine VC.seq ?_ | refine VC.block ?_ | refine VC.skip ?_)
    refine VC.condT rfl hb ?_
    repeat (first | refine VC.seq ?_ | refine VC.block ?_ | refine VC.skip ?_)
    refine VC.region ?_
    refine VR.pure rfl rfl (p_moveP rfl) ?_
    refine VR.val rfl rfl (r_loadAgg (vs := [.int .i64 t.l, .int .i64 t.e, .int .i64 t.z]) Try.isAgg83 Try.sizeOf83 rfl (hm.fix _ _ hb8) rfl (agg_at rfl)) ?_
    refine VR.pure rfl rfl (p_nilCheck rfl) ?_
    refine VR.pure rfl rfl (p_field (fo := 5) Try.underlying87 rfl Try.sizeOf83 rfl rfl rfl) ?_
    refine VR.store (cs' := (rcl id1 ep1 zx1 A1' n1 c1 round1 t.vt (updH h1 kf t.vt) (updB b1 kf) calm1)) (v := .agg _) Try.sizeOf83 rfl rfl rfl rfl rfl hm 0 0 rfl (Nat.ble_eq.mp rfl) rfl ?_
    intro w hm
    refine VR.nil ?_
    repeat (first | refine VC.seq ?_ | refine VC.block ?_ | refine VC.skip ?_)
    refine VC.region ?_
    refine VR.pure rfl rfl (p_moveP rfl) ?_
    refine VR.pure rfl rfl (p_nilCheck rfl) ?_
    refine VR.pure rfl rfl (p_field (fo := 40) Try.underlying87 rfl Try.sizeOf3 rfl rfl rfl) ?_
    refine VR.store (cs' := (rcl id1 ep1 zx1 A1' n1 c1 round1 t.vt (updH h1 kf t.vt) (updB b1 kf) 0)) (v := .int _ _) Try.sizeOf3 rfl rfl rfl rfl rfl hm 0 0 rfl (Nat.ble_eq.mp rfl) rfl ?_
    intro w hm
    refine VR.nil ?_
    repeat (first | refine VC.seq ?_ | refine VC.block ?_ | refine VC.skip ?_)
    refine VC.region ?_
    refine VR.pure rfl rfl (p_assignB rfl) ?_
    refine VR.nil ?_
    repeat (first | refine VC.seq ?_ | refine VC.block ?_ | refine VC.skip ?_)
    refine VC.region ?_
    refine VR.pure rfl rfl (p_moveB rfl) ?_
    refine VR.pure rfl rfl (p_assignB rfl) ?_
    refine VR.nil ?_
    repeat (first | refine VC.seq ?_ | refine VC.block ?_ | refine VC.skip ?_)
    refine VC.ret ⟨_, ResOf.r1 (v := .bool _) rfl rfl, ?_⟩
    unfold rHear
    rw [if_pos hok, ← hS, if_pos hb]
    exact ⟨rfl, (hm.shrink hu2).shrink hu⟩
  · repeat (first | refine VC.seq ?_ | refine VC.block ?_ | refine VC.skip ?_)
    refine VC.condF rfl (Bool.not_eq_true _ |>.mp hb) ?_
    repeat (first | refine VC.seq ?_ | refine VC.block ?_ | refine VC.skip ?_)
    refine VC.region ?_
    refine VR.pure rfl rfl (p_moveB rfl) ?_
    refine VR.pure rfl rfl (p_assignB rfl) ?_
    refine VR.nil ?_
    repeat (first | refine VC.seq ?_ | refine VC.block ?_ | refine VC.skip ?_)
    refine VC.ret ⟨_, ResOf.r1 (v := .bool _) rfl rfl, ?_⟩
    unfold rHear
    rw [if_pos hok, ← hS, if_neg hb]
    exact ⟨rfl, (hm.shrink hu2).shrink hu⟩
set_option maxHeartbeats 4000000 in
theorem rtick_c {g : Nat} {R : Rc} (hm : Mem F w ([(g, rO R)] :: Ls)) (hn : R.n ≤ maxLen) (hr : ERow F.heap R.A R.n R.es) :
    Calls Try.prog 18 #[.pointer (some ⟨g, 0, none⟩)] w (Ret fun v w' => v = .tuple #[.int .i64 (rTick R).1.1, .bool (rTick R).1.2] ∧ Mem F w' ([(g, rO (rTick R).2)] :: Ls)) := by
  obtain ⟨id, ep, zx, A, n, c, es, round, v, h, b, calm⟩ := R
  dsimp only at hn hr
  have hids := rids_mem ⟨id, ep, zx, A, n, c, es, round, v, h, b, calm⟩
  have hhd := fun (k : Nat) (hk : k < 8) => rc_heard ⟨id, ep, zx, A, n, c, es, round, v, h, b, IntKind.i64.wrap (calm + 1)⟩ hk
  have his := rc_is ⟨id, ep, zx, A, n, c, es, round, v, h, b, IntKind.i64.wrap (calm + 1)⟩
  have hta : rTick ⟨id, ep, zx, A, n, c, es, round, v, h, b, calm⟩ = (if v.l ≠ 0 ∧ 2 ≤ IntKind.i64.wrap (calm + 1) ∧ allA (es.map En.abs) (rids ⟨id, ep, zx, A, n, c, es, round, v, h, b, calm⟩) = true then (v.l, true) else (0, false), ⟨id, ep, zx, A, n, c, es, round, v, h, b, IntKind.i64.wrap (calm + 1)⟩) := rfl
  rw [hta]
  clear hta
  generalize rids ⟨id, ep, zx, A, n, c, es, round, v, h, b, calm⟩ = ris at hids
  dsimp only at hids hhd his
  replace hm : Mem F w ([(g, .cells (rcl id ep zx A n c round v h b calm) 87 (0, 0))] :: Ls) := hm
  refine Calls.of_vc Try.func18 rfl Try.ntmps18 rfl ?_
  repeat (first | refine VC.seq ?_ | refine VC.block ?_ | refine VC.skip ?_)
  refine VC.region ?_
  refine VR.pure rfl rfl (p_assignI rfl) ?_
  refine VR.pure rfl rfl (p_assignB rfl) ?_
  refine VR.nil ?_
  repeat (first | refine VC.seq ?_ | refine VC.block ?_ | refine VC.skip ?_)
  refine VC.region ?_
  refine VR.pure rfl rfl (p_moveP rfl) ?_
  refine VR.pure rfl rfl (p_nilCheck rfl) ?_
  refine VR.pure rfl rfl (p_field (fo := 40) Try.underlying87 rfl Try.sizeOf3 rfl rfl rfl) ?_
  refine VR.val rfl rfl (r_load (v := .int _ _) Try.isAgg3 rfl (hm.at_ 0 0 rfl) rfl) ?_
  refine VR.pure rfl rfl (p_add rfl rfl) ?_
  refine VR.pure rfl rfl (p_nilCheck rfl) ?_
  refine VR.pure rfl rfl (p_field (fo := 40) Try.underlying87 rfl Try.sizeOf3 rfl rfl rfl) ?_
  refine VR.store (cs' := (rcl id ep zx A n c round v h b (IntKind.i64.wrap (calm + 1)))) (v := .int _ _) Try.sizeOf3 rfl rfl rfl rfl rfl hm 0 0 rfl (Nat.ble_eq.mp rfl) rfl ?_
  intro w hm
  refine VR.nil ?_
  generalize IntKind.i64.wrap (calm + 1) = cal at hm hhd his
  repeat (first | refine VC.seq ?_ | refine VC.block ?_ | refine VC.skip ?_)
  refine VC.region ?_
  refine VR.pure rfl rfl (p_moveP rfl) ?_
  refine VR.pure rfl rfl (p_nilCheck rfl) ?_
  refine VR.pure rfl rfl (p_field (fo := 0) Try.underlying87 rfl Try.sizeOf3 rfl rfl rfl) ?_
  refine VR.val rfl rfl (r_load (v := .int _ _) Try.isAgg3 rfl (hm.at_ 0 0 rfl) rfl) ?_
  refine VR.new hm rfl rfl (n_buildSlice1 (vs := [.int _ _]) Try.underlying70 inf3 rfl rfl rfl rfl rfl rfl rfl) ?_
  intro b4 w hm
  refine VR.pure rfl rfl (p_assignL rfl) ?_
  refine VR.nil ?_
  have ho0 : OwnS 3 1 (some ⟨b4, 0, none⟩) 1 1 (intsV [id]) [(b4, .cells #[.int .i64 id] 3 (0, 0))] := OwnS.whole (by decide) rfl
  repeat (first | refine VC.seq ?_ | refine VC.block ?_ | refine VC.skip ?_)
  refine VC.region ?_
  refine VR.pure rfl rfl (p_assignI rfl) ?_
  refine VR.nil ?_
  repeat (first | refine VC.seq ?_ | refine VC.block ?_ | refine VC.skip ?_)
  refine VC.loop (σ := Nat × Option Addr × Nat × List Int × Blks) (fun s => [(0, .pointer (some ⟨g, 0, none⟩)), (4, .slice s.2.1 s.2.2.2.1.length s.2.2.1), (5, .int .i64 s.1)])
    (fun s w => Mem F w (s.2.2.2.2 :: [(g, .cells (rcl id ep zx A n c round v h b cal) 87 (0, 0))] :: Ls) ∧ OwnS 3 1 s.2.1 s.2.2.2.1.length s.2.2.1 (intsV s.2.2.2.1) s.2.2.2.2 ∧ 1 ≤ s.1 ∧ s.1 ≤ 8 ∧ s.2.2.2.1.length ≤ s.1 ∧ ∀ z, z ∈ s.2.2.2.1 ↔ z = id ∨ ∃ k : Nat, 1 ≤ k ∧ k < s.1 ∧ b k = true ∧ h k = v ∧ z = k)
    (fun s => 8 - s.1) (1, _, 1, [id], _) ⟨rfl, rfl, rfl, trivial⟩ ⟨hm, ho0, Nat.le_refl _, by show 1 ≤ 8; omega, Nat.le_refl _, fun z => ?_⟩ ?_
  · show z ∈ [id] ↔ _
    rw [List.mem_singleton]
    constructor
    · exact fun h => .inl h
    · rintro (h | ⟨k, h1, h2, _⟩)
      · exact h
      · dsimp only at h2
        omega
  clear hm ho0
  rintro ⟨j, A4, c4, ns, L⟩ AA w ⟨hm, ho, hj1, hj8, hnl, hmem⟩
  dsimp only at hm ho hj1 hj8 hnl hmem ⊢
  repeat (first | refine VC.seq ?_ | refine VC.block ?_ | refine VC.skip ?_)
  refine VC.region ?_
  refine VR.pure rfl rfl (p_moveI rfl) ?_
  refine VR.pure rfl rfl (p_le rfl rfl) ?_
  refine VR.nil ?_
  repeat (first | refine VC.seq ?_ | refine VC.block ?_ | refine VC.skip ?_)
  refine VC.condD rfl (fun hj => ?_) (fun hj => ?_)
  · have hj7 : j < 8 := by omega
    repeat (first | refine VC.seq ?_ | refine VC.block ?_ | refine VC.skip ?_)
    refine VC.loud (Kept F ([(g, .cells (rcl id ep zx A n c round v h b cal) 87 (0, 0))] :: [])) [] rfl (by kernel_rfl) (Kept.one hm.drew 1 rfl) ?_
    replace hm := hm.drew
    refine VL.pure rfl rfl rfl (p_moveP rfl) ?_
    refine VL.pure rfl rfl rfl (p_moveI rfl) ?_
    refine VL.pure rfl rfl rfl (p_nilCheck rfl) ?_
    refine VL.pure rfl rfl rfl (p_field (fo := 32) Try.underlying87 rfl Try.sizeOf85 rfl rfl rfl) ?_
    refine VL.pure rfl rfl rfl (p_idxA Try.underlying85 Try.sizeOf4 rfl rfl hj7) ?_
    refine VL.read rfl rfl rfl (fun w' hw' => r_load (v := .bool _) Try.isAgg4 rfl (hw'.at_ 0 0 rfl) (his j hj7)) ?_
    refine VL.pure rfl rfl rfl (p_moveB rfl) ?_
    refine VL.splitB 28 rfl (fun q6 => ?_) (fun q6 => ?_)
    refine VL.pureG rfl rfl rfl (p_moveP rfl) ?_
    refine VL.pureG rfl rfl rfl (p_moveI rfl) ?_
    refine VL.pureG rfl rfl rfl (p_nilCheck rfl) ?_
    refine VL.pureG rfl rfl rfl (p_field (fo := 8) Try.underlying87 rfl Try.sizeOf84 rfl rfl rfl) ?_
    refine VL.pureG rfl rfl rfl (p_idxA Try.underlying84 Try.sizeOf83 rfl rfl hj7) ?_
    refine VL.readG rfl rfl rfl (fun w' hw' => r_loadAgg (vs := [.int .i64 (h j).l, .int .i64 (h j).e, .int .i64 (h j).z]) Try.isAgg83 Try.sizeOf83 rfl (hw'.at_ 0 0 rfl) rfl (hhd j hj7)) ?_
    refine VL.pureG rfl rfl rfl (p_moveP rfl) ?_
    refine VL.pureG rfl rfl rfl (p_nilCheck rfl) ?_
    refine VL.pureG rfl rfl rfl (p_field (fo := 5) Try.underlying87 rfl Try.sizeOf83 rfl rfl rfl) ?_
    refine VL.readG rfl rfl rfl (fun w' hw' => r_loadAgg (vs := [.int .i64 v.l, .int .i64 v.e, .int .i64 v.z]) Try.isAgg83 Try.sizeOf83 rfl (hw'.at_ 0 0 rfl) rfl (agg_at rfl)) ?_
    refine VL.pureG rfl rfl rfl (p_eqG Try.underlying83 sih83 eqg83 rfl rfl (fields_rvote (h j) v _ Try.underlying83)) ?_
    refine VL.pure rfl rfl rfl (p_pickT rfl rfl) ?_
    refine VL.nil ?_
    rotate_left 1
    refine VL.pass rfl rfl ?_
    refine VL.pass rfl rfl ?_
    refine VL.pass rfl rfl ?_
    refine VL.pass rfl rfl ?_
    refine VL.pass rfl rfl ?_
    refine VL.pass rfl rfl ?_
    refine VL.pass rfl rfl ?_
    refine VL.pass rfl rfl ?_
    refine VL.pass rfl rfl ?_
    refine VL.pass rfl rfl ?_
    refine VL.pass rfl rfl ?_
    refine VL.pure rfl rfl rfl (p_pickF rfl rfl) ?_
    refine VL.nil ?_
    rotate_left 1
    · repeat (first | refine VC.seq ?_ | refine VC.block ?_ | refine VC.skip ?_)
      refine VC.condD rfl (fun q18 => ?_) (fun q18 => ?_)
      · repeat (first | refine VC.seq ?_ | refine VC.block ?_ | refine VC.skip ?_)
        refine VC.region ?_
        refine VR.pure rfl rfl (p_moveL rfl) ?_
        refine VR.pure rfl rfl (p_moveI rfl) ?_
        refine VR.new hm rfl rfl (n_buildSlice1 (vs := [.int _ _]) Try.underlying70 inf3 rfl rfl rfl rfl rfl rfl rfl) ?_
        intro b42 w hm
        replace hm := hm.pull 1 rfl
        refine VR.append (s := 1) (bytes := 8) Try.underlying70 inf3 rfl rfl rfl rfl rfl rfl rfl rfl rfl hm ho (Row.lit (cs := [.int .i64 j]) (hm.at_ 1 0 rfl)) (intsV_one [(j : Int)]) rfl ⟨by unfold maxLen; omega, by omega⟩ ?_
        intro A3 c3 w L3 ho3 hm
        refine VR.pure rfl rfl (p_assignL rfl) ?_
        refine VR.nil ?_
        repeat (first | refine VC.seq ?_ | refine VC.block ?_ | refine VC.skip ?_)
        refine VC.region ?_
        refine VR.pure rfl rfl (p_moveI rfl) ?_
        refine VR.pure rfl rfl (p_add64 rfl rfl (by omega)) ?_
        refine VR.pure rfl rfl (p_assignI rfl) ?_
        refine VR.nil ?_
        have ho4 : OwnS 3 1 A3 (ns ++ [(j : Int)]).length c3 (intsV (ns ++ [(j : Int)])) L3 := by
          unfold intsV
          rw [List.map_append, List.length_append]
          exact ho3
        refine ⟨(j + 1, A3, c3, ns ++ [(j : Int)], L3), ⟨rfl, by rw [List.length_append]; rfl, rfl, trivial⟩, ⟨hm.pop2, ho4, by show 1 ≤ j + 1; omega, by show j + 1 ≤ 8; omega, by rw [List.length_append]; show ns.length + 1 ≤ j + 1; omega, fun z => ?_⟩, by show 8 - (j + 1) < 8 - j; omega⟩
        rw [List.mem_append, hmem, List.mem_singleton]
        constructor
        · rintro ((h | ⟨k, h1, h2, h3⟩) | h)
          · exact .inl h
          · exact .inr ⟨k, h1, by show k < j + 1; omega, h3⟩
          · exact .inr ⟨j, hj1, by show j < j + 1; omega, q6, q18, h⟩
        · rintro (h | ⟨k, h1, h2, h3, h4, h5⟩)
          · exact .inl (.inl h)
          · by_cases e : k = j
            · subst e
              exact .inr h5
            · exact .inl (.inr ⟨k, h1, by dsimp only at h2; omega, h3, h4, h5⟩)
      · repeat (first | refine VC.seq ?_ | refine VC.block ?_ | refine VC.skip ?_)
        repeat (first | refine VC.seq ?_ | refine VC.block ?_ | refine VC.skip ?_)
        refine VC.region ?_
        refine VR.pure rfl rfl (p_moveI rfl) ?_
        refine VR.pure rfl rfl (p_add64 rfl rfl (by omega)) ?_
        refine VR.pure rfl rfl (p_assignI rfl) ?_
        refine VR.nil ?_
        refine ⟨(j + 1, A4, c4, ns, L), ⟨rfl, rfl, rfl, trivial⟩, ⟨hm, ho, by show 1 ≤ j + 1; omega, by show j + 1 ≤ 8; omega, by show ns.length ≤ j + 1; omega, fun z => ?_⟩, by show 8 - (j + 1) < 8 - j; omega⟩
        rw [hmem]
        refine or_congr_right ?_
        constructor
        · rintro ⟨k, h1, h2, h3⟩
          exact ⟨k, h1, by show k < j + 1; omega, h3⟩
        · rintro ⟨k, h1, h2, h3, h4, h5⟩
          by_cases e : k = j
          · subst e
            exact absurd h4 q18
          · exact ⟨k, h1, by dsimp only at h2; omega, h3, h4, h5⟩
    · repeat (first | refine VC.seq ?_ | refine VC.block ?_ | refine VC.skip ?_)
      refine VC.condF rfl rfl ?_
      have q7 : ¬ b j = true := by rw [q6]; decide
      repeat (first | refine VC.seq ?_ | refine VC.block ?_ | refine VC.skip ?_)
      refine VC.region ?_
      refine VR.pure rfl rfl (p_moveI rfl) ?_
      refine VR.pure rfl rfl (p_add64 rfl rfl (by omega)) ?_
      refine VR.pure rfl rfl (p_assignI rfl) ?_
      refine VR.nil ?_
      refine ⟨(j + 1, A4, c4, ns, L), ⟨rfl, rfl, rfl, trivial⟩, ⟨hm, ho, by show 1 ≤ j + 1; omega, by show j + 1 ≤ 8; omega, by show ns.length ≤ j + 1; omega, fun z => ?_⟩, by show 8 - (j + 1) < 8 - j; omega⟩
      rw [hmem]
      refine or_congr_right ?_
      constructor
      · rintro ⟨k, h1, h2, h3⟩
        exact ⟨k, h1, by show k < j + 1; omega, h3⟩
      · rintro ⟨k, h1, h2, h3, h4, h5⟩
        by_cases e : k = j
        · subst e
          exact absurd h3 q7
        · exact ⟨k, h1, by dsimp only at h2; omega, h3, h4, h5⟩
  · repeat (first | refine VC.seq ?_ | refine VC.block ?_ | refine VC.skip ?_)
    refine VC.exit ?_
    obtain rfl : j = 8 := by omega
    have hall : allA (es.map En.abs) ns = allA (es.map En.abs) ris := all_same fun z => (hmem z).trans (hids z).symm
    rw [← hall]
    repeat (first | refine VC.seq ?_ | refine VC.block ?_ | refine VC.skip ?_)
    refine VC.region ?_
    refine VR.pure rfl rfl (p_moveP rfl) ?_
    refine VR.pure rfl rfl (p_nilCheck rfl) ?_
    refine VR.pure rfl rfl (p_field (fo := 5) Try.underlying87 rfl Try.sizeOf83 rfl rfl rfl) ?_
    refine VR.pure rfl rfl (p_field (fo := 0) Try.underlying83 rfl Try.sizeOf3 rfl rfl rfl) ?_
    refine VR.val rfl rfl (r_load (v := .int _ _) Try.isAgg3 rfl (hm.at_ 1 0 rfl) rfl) ?_
    refine VR.pure rfl rfl (p_ne rfl rfl) ?_
    refine VR.pure rfl rfl (p_moveB rfl) ?_
    refine VR.splitD 51 rfl (fun q6 => ?_) (fun q6 => ?_)
    refine VR.pureG rfl rfl (p_moveP rfl) ?_
    refine VR.pureG rfl rfl (p_nilCheck rfl) ?_
    refine VR.pureG rfl rfl (p_field (fo := 40) Try.underlying87 rfl Try.sizeOf3 rfl rfl rfl) ?_
    refine VR.valG rfl rfl (r_load (v := .int _ _) Try.isAgg3 rfl (hm.at_ 1 0 rfl) rfl) ?_
    refine VR.pureG rfl rfl (p_ge rfl rfl) ?_
    refine VR.pure rfl rfl (p_pickT rfl rfl) ?_
    refine VR.pure rfl rfl (p_moveB rfl) ?_
    refine VR.splitD 58 rfl (fun q13 => ?_) (fun q13 => ?_)
    refine VR.pureG rfl rfl (p_moveP rfl) ?_
    refine VR.pureG rfl rfl (p_nilCheck rfl) ?_
    refine VR.pureG rfl rfl (p_field (fo := 3) Try.underlying87 rfl Try.sizeOf23 rfl rfl rfl) ?_
    refine VR.valG rfl rfl (r_load (v := .slice _ _ _) Try.isAgg23 rfl (hm.at_ 1 0 rfl) rfl) ?_
    refine VR.pureG rfl rfl (p_moveL rfl) ?_
    refine VR.callG rfl rfl (r_call2 Try.call39 rfl rfl) (rall_c (es := es) (ids := ns) hm.all hn (hr.mono hm.le) (by unfold maxLen; omega) (ho.row1 (hm.plus_i 0 rfl))) ?_
    rintro _ w ⟨rfl, hm'⟩
    replace hm := hm.back0 hm'
    refine VR.pure rfl rfl (p_pickT rfl rfl) ?_
    refine VR.nil ?_
    rotate_left 1
    refine VR.pass rfl rfl ?_
    refine VR.pass rfl rfl ?_
    refine VR.pass rfl rfl ?_
    refine VR.pass rfl rfl ?_
    refine VR.pass rfl rfl ?_
    refine VR.pass rfl rfl ?_
    refine VR.pure rfl rfl (p_pickF rfl rfl) ?_
    refine VR.nil ?_
    rotate_left 1
    refine VR.pass rfl rfl ?_
    refine VR.pass rfl rfl ?_
    refine VR.pass rfl rfl ?_
    refine VR.pass rfl rfl ?_
    refine VR.pass rfl rfl ?_
    refine VR.pure rfl rfl (p_pickF rfl rfl) ?_
    refine VR.pure rfl rfl (p_moveB rfl) ?_
    refine VR.pass rfl rfl ?_
    refine VR.pass rfl rfl ?_
    refine VR.pass rfl rfl ?_
    refine VR.pass rfl rfl ?_
    refine VR.pass rfl rfl ?_
    refine VR.pass rfl rfl ?_
    refine VR.pure rfl rfl (p_pickF rfl rfl) ?_
    refine VR.nil ?_
    rotate_left 1
    · by_cases hq : allA (es.map En.abs) ns = true
      · repeat (first | refine VC.seq ?_ | refine VC.block ?_ | refine VC.skip ?_)
        refine VC.condT rfl hq ?_
        repeat (first | refine VC.seq ?_ | refine VC.block ?_ | refine VC.skip ?_)
        refine VC.region ?_
        refine VR.pure rfl rfl (p_moveP rfl) ?_
        refine VR.pure rfl rfl (p_nilCheck rfl) ?_
        refine VR.pure rfl rfl (p_field (fo := 5) Try.underlying87 rfl Try.sizeOf83 rfl rfl rfl) ?_
        refine VR.pure rfl rfl (p_field (fo := 0) Try.underlying83 rfl Try.sizeOf3 rfl rfl rfl) ?_
        refine VR.val rfl rfl (r_load (v := .int _ _) Try.isAgg3 rfl (hm.at_ 1 0 rfl) rfl) ?_
        refine VR.pure rfl rfl (p_assignI rfl) ?_
        refine VR.pure rfl rfl (p_assignB rfl) ?_
        refine VR.nil ?_
        repeat (first | refine VC.seq ?_ | refine VC.block ?_ | refine VC.skip ?_)
        refine VC.ret ⟨_, ResOf.r2 (v := .int _ _) (u := .bool _) rfl rfl rfl, ?_⟩
        rw [if_pos ⟨q6, by omega, hq⟩]
        exact ⟨rfl, hm.pop⟩
      · repeat (first | refine VC.seq ?_ | refine VC.block ?_ | refine VC.skip ?_)
        refine VC.condF rfl (Bool.not_eq_true _ |>.mp hq) ?_
        repeat (first | refine VC.seq ?_ | refine VC.block ?_ | refine VC.skip ?_)
        refine VC.region ?_
        refine VR.pure rfl rfl (p_assignI rfl) ?_
        refine VR.pure rfl rfl (p_assignB rfl) ?_
        refine VR.nil ?_
        repeat (first | refine VC.seq ?_ | refine VC.block ?_ | refine VC.skip ?_)
        refine VC.ret ⟨_, ResOf.r2 (v := .int _ _) (u := .bool _) rfl rfl rfl, ?_⟩
        rw [if_neg (fun h => hq h.2.2)]
        exact ⟨rfl, hm.pop⟩
    · repeat (first | refine VC.seq ?_ | refine VC.block ?_ | refine VC.skip ?_)
      refine VC.condF rfl rfl ?_
      repeat (first | refine VC.seq ?_ | refine VC.block ?_ | refine VC.skip ?_)
      refine VC.region ?_
      refine VR.pure rfl rfl (p_assignI rfl) ?_
      refine VR.pure rfl rfl (p_assignB rfl) ?_
      refine VR.nil ?_
      repeat (first | refine VC.seq ?_ | refine VC.block ?_ | refine VC.skip ?_)
      refine VC.ret ⟨_, ResOf.r2 (v := .int _ _) (u := .bool _) rfl rfl rfl, ?_⟩
      rw [if_neg (fun h => by omega)]
      exact ⟨rfl, hm.pop⟩
    · repeat (first | refine VC.seq ?_ | refine VC.block ?_ | refine VC.skip ?_)
      refine VC.condF rfl rfl ?_
      repeat (first | refine VC.seq ?_ | refine VC.block ?_ | refine VC.skip ?_)
      refine VC.region ?_
      refine VR.pure rfl rfl (p_assignI rfl) ?_
      refine VR.pure rfl rfl (p_assignB rfl) ?_
      refine VR.nil ?_
      repeat (first | refine VC.seq ?_ | refine VC.block ?_ | refine VC.skip ?_)
      refine VC.ret ⟨_, ResOf.r2 (v := .int _ _) (u := .bool _) rfl rfl rfl, ?_⟩
      rw [if_neg (fun h => q6 h.1)]
      exact ⟨rfl, hm.pop⟩
end
end Go.Bd
