/- Contracts of layer 23: a leader goes on as far as what was told is enough. Conditions: as each states. -/
import Derived.Test.Ytjnplhmhkindpaa23q
namespace Go.Bd
open Go.Proofs
set_option linter.unusedVariables false
set_option maxRecDepth 20000

structure Tb where
  id : Int
  cur : Int
  last : Int
  A : Option Addr
  n : Nat
  c : Nat
  es : List En
  stage : Int
  ep : Int
  td : Nat → Td
  prop : Int
  com : Int
abbrev Tb.ob (T : Tb) : Obj := tOb T.id T.cur T.last T.A T.n T.c T.stage T.ep T.td T.prop T.com
structure Ta where
  id : Int
  cur : Int
  last : Int
  es : List (Int × List Mb)
  stage : Int
  ep : Int
  td : Nat → Td
  prop : Int
  com : Int
def Tb.abs (T : Tb) : Ta := ⟨T.id, T.cur, T.last, T.es.map En.abs, T.stage, T.ep, T.td, T.prop, T.com⟩
structure TOk (H : Nat → Option Obj) (T : Tb) : Prop where
  row : ERow H T.A T.n T.es
  n : 1 ≤ T.n
  nc : T.n ≤ T.c
  c : T.c ≤ maxLen
  id : 1 ≤ T.id ∧ T.id ≤ 7
  acc : ∀ k, k < 8 → 0 ≤ (T.td k).acc ∧ (T.td k).acc ≤ 1073741822
theorem TOk.mono {H K : Nat → Option Obj} {T : Tb} (h : TOk H T) (hle : ∀ b o, H b = some o → K b = some o) : TOk K T := ⟨h.row.mono hle, h.n, h.nc, h.c, h.id, h.acc⟩
def epAt (td : Nat → Td) (e : Int) : Nat → Int
  | 0 => e
  | k + 1 => max (epAt td e k) ((td k).acc + 1)
def g1 (a : Ta) : Ta := if a.stage = 1 ∧ qT a.es a.td (fun d => d.info) = true then
  ⟨a.id, a.cur, a.last, a.es, 2, epAt a.td a.ep 8, updT a.td a.id.toNat { a.td a.id.toNat with pr := true }, a.prop, a.com⟩ else a
def g2 (a : Ta) : Ta := if a.stage = 2 ∧ qT a.es a.td (fun d => d.pr) = true then ⟨a.id, a.cur, a.last, a.es, 3, a.ep, a.td, a.prop, a.com⟩ else a
def g3 (a : Ta) : Ta := if a.stage = 3 ∧ qT a.es a.td (fun d => d.nw) = true then ⟨a.id, a.cur, a.last, a.es.drop (a.es.length - 1), 4, a.ep, a.td, a.prop, a.last⟩ else a
def onA (a : Ta) : Ta := g3 (g2 (g1 a))
theorem g1_no {a : Ta} (h : a.stage ≠ 1) : g1 a = a := if_neg fun x => h x.1
theorem g2_no {a : Ta} (h : a.stage ≠ 2) : g2 a = a := if_neg fun x => h x.1
theorem g3_no {a : Ta} (h : a.stage ≠ 3) : g3 a = a := if_neg fun x => h x.1
theorem on_1 {a : Ta} (h : a.stage = 1) (hq : qT a.es a.td (fun d => d.info) = true) : onA (g1 a) = onA a := by
  have h2 : (g1 a).stage = 2 := by unfold g1; rw [if_pos ⟨h, hq⟩]
  unfold onA
  rw [g1_no (a := g1 a) (by omega)]
theorem on_2 {a : Ta} (h : a.stage = 2) (hq : qT a.es a.td (fun d => d.pr) = true) : onA (g2 a) = onA a := by
  have h2 : (g2 a).stage = 3 := by unfold g2; rw [if_pos ⟨h, hq⟩]
  unfold onA
  rw [g1_no (a := g2 a) (by omega), g2_no (a := g2 a) (by omega), g1_no (a := a) (by omega)]
theorem on_3 {a : Ta} (h : a.stage = 3) (hq : qT a.es a.td (fun d => d.nw) = true) : onA (g3 a) = onA a := by
  have h2 : (g3 a).stage = 4 := by unfold g3; rw [if_pos ⟨h, hq⟩]
  unfold onA
  rw [g1_no (a := g3 a) (by omega), g2_no (a := g3 a) (by omega), g3_no (a := g3 a) (by omega), g1_no (a := a) (by omega), g2_no (a := a) (by omega)]
theorem on_end {a : Ta} (h1 : ¬ (a.stage = 1 ∧ qT a.es a.td (fun d => d.info) = true)) (h2 : ¬ (a.stage = 2 ∧ qT a.es a.td (fun d => d.pr) = true)) (h3 : ¬ (a.stage = 3 ∧ qT a.es a.td (fun d => d.nw) = true)) : onA a = a := by
  unfold onA
  rw [show g1 a = a from if_neg h1, show g2 a = a from if_neg h2, show g3 a = a from if_neg h3]
theorem ecells_drop (es : List En) (l : Nat) : (ecells es).drop (l * 2) = ecells (es.drop l) := by
  induction es generalizing l with
  | nil => simp [ecells]
  | cons e r ih =>
    cases l with
    | zero => rfl
    | succ l =>
      have e1 : (l + 1) * 2 = l * 2 + 1 + 1 := by omega
      rw [e1]
      show (ecells r).drop (l * 2) = ecells (r.drop l)
      exact ih l
theorem ERow.drop {H : Nat → Option Obj} {A : Option Addr} {n c l : Nat} {es : List En} (h : ERow H A n es) (hl : l ≤ n) (hc : n ≤ c) : ∃ A', (if c = l then A else A.map (·.add (l * 2))) = A' ∧ ERow H A' (n - l) (es.drop l) := by
  obtain ⟨A', h1, h2⟩ := h.row.dropE hl hc
  refine ⟨A', h1, ?_, fun e he => h.each e (List.mem_of_mem_drop he)⟩
  rw [ecells_drop] at h2
  exact h2
theorem epAt_le (td : Nat → Td) (e : Int) : ∀ k, (∀ j, j < k → (td j).acc + 1 ≤ epAt td e k) ∧ e ≤ epAt td e k
  | 0 => ⟨fun j h => by omega, Int.le_refl _⟩
  | k + 1 => by
    obtain ⟨h1, h2⟩ := epAt_le td e k
    refine ⟨fun j hj => ?_, ?_⟩
    · show _ ≤ max (epAt td e k) ((td k).acc + 1)
      by_cases ej : j = k
      · subst ej
        omega
      · have := h1 j (by omega)
        omega
    · show _ ≤ max (epAt td e k) ((td k).acc + 1)
      omega

section
variable {F : Env} {w : World} {Ls : List Blks}
set_option maxHeartbeats 8000000 in
theorem on_c {g : Nat} {T0 : Tb} (hm : Mem F w ([(g, T0.ob)] :: Ls)) (hT : TOk F.heap T0) (h40 : T0.stage ≤ 4) :
    Calls Try.prog 26 #[.pointer (some ⟨g, 0, none⟩)] w (Ret fun _ w' => ∃ T', T'.abs = onA T0.abs ∧ TOk F.heap T' ∧ Mem F w' ([(g, T'.ob)] :: Ls)) := by
  refine Calls.of_vc Try.func26 rfl Try.ntmps26 rfl ?_
  refine VC.jumps (σ := Tb) 0 rfl (fun S => [(0, .pointer (some ⟨g, 0, none⟩))]) (fun S w => Mem F w ([(g, S.ob)] :: Ls) ∧ TOk F.heap S ∧ onA S.abs = onA T0.abs ∧ S.stage ≤ 4) (fun S => (5 - S.stage).toNat) ?_ ?_
  · obtain ⟨S0, hS0⟩ : ∃ S0, S0 = T0 := ⟨T0, rfl⟩
    have hon : onA S0.abs = onA T0.abs := by rw [hS0]
    rw [← hS0] at hm hT h40
    clear hS0
    obtain ⟨id, cur, last, A, n, c, es, stage, ep, td, prop, com⟩ := S0
    have hS := hT
    have h4 := h40
    repeat (first | refine VC.seq ?_ | refine VC.label ?_)
    have hSrow := hS.row
    have hSn := hS.n
    have hSnc := hS.nc
    have hSc := hS.c
    have hSid := hS.id
    have hSacc := hS.acc
    dsimp only at hm hSrow hSn hSnc hSc hSid hSacc h4
    have hlen := hSrow.len
    have hSc2 := hSc
    unfold maxLen at hSc2
    obtain ⟨kid, rfl, hk8⟩ : ∃ q : Nat, id = q ∧ q < 8 := ⟨id.toNat, by omega, by omega⟩
    repeat (first | refine VC.seq ?_ | refine VC.block ?_ | refine VC.skip ?_)
    refine VC.region ?_
    refine VR.pure rfl rfl (p_moveP rfl) ?_
    refine VR.pure rfl rfl (p_nilCheck rfl) ?_
    refine VR.pure rfl rfl (p_field (fo := 4) Try.underlying47 rfl Try.sizeOf32 rfl rfl rfl) ?_
    refine VR.val rfl rfl (r_load (v := .int _ _) Try.isAgg32 rfl (hm.at_ 0 0 rfl) rfl) ?_
    refine VR.pure rfl rfl (p_assignI rfl) ?_
    refine VR.nil ?_
    repeat (first | refine VC.seq ?_ | refine VC.block ?_ | refine VC.skip ?_)
    refine VC.region ?_
    refine VR.pure rfl rfl (p_moveP rfl) ?_
    refine VR.pure rfl rfl (p_nilCheck rfl) ?_
    refine VR.pure rfl rfl (p_field (fo := 4) Try.underlying47 rfl Try.sizeOf32 rfl rfl rfl) ?_
    refine VR.val rfl rfl (r_load (v := .int _ _) Try.isAgg32 rfl (hm.at_ 0 0 rfl) rfl) ?_
    refine VR.nil ?_
    refine VC.meet (σ := Tb) (fun S' => [(0, .pointer (some ⟨g, 0, none⟩)), (2, .int .u8 stage)])
      (fun S' w => Mem F w ([(g, S'.ob)] :: Ls) ∧ TOk F.heap S' ∧ onA S'.abs = onA T0.abs ∧ S'.stage ≤ 4 ∧ (S'.stage = stage → onA S'.abs = S'.abs) ∧ stage ≤ S'.stage) ?_ ?_
    rotate_left
    · clear hm hS hSrow hSacc hon
      rintro S' A9 w ⟨hm, hS', hon', h4', hend, hle⟩
      repeat (first | refine VC.seq ?_ | refine VC.block ?_ | refine VC.skip ?_)
      refine VC.region ?_
      refine VR.pure rfl rfl (p_moveP rfl) ?_
      refine VR.pure rfl rfl (p_nilCheck rfl) ?_
      refine VR.pure rfl rfl (p_field (fo := 4) Try.underlying47 rfl Try.sizeOf32 rfl rfl rfl) ?_
      refine VR.val rfl rfl (r_load (v := .int _ _) Try.isAgg32 rfl (hm.at_ 0 0 rfl) rfl) ?_
      refine VR.pure rfl rfl (p_moveI rfl) ?_
      refine VR.pure rfl rfl (p_ne rfl rfl) ?_
      refine VR.nil ?_
      repeat (first | refine VC.seq ?_ | refine VC.block ?_ | refine VC.skip ?_)
      refine VC.condD rfl (fun hne => ?_) (fun hne => ?_)
      · refine VC.goto ?_
        first
          | exact ⟨S', ⟨rfl, trivial⟩, ⟨hm, hS', hon', h4'⟩, (by show (5 - S'.stage).toNat < (5 - stage).toNat; omega)⟩
          | exact ⟨S', ⟨rfl, trivial⟩, hm, hS', hon', h4'⟩
      · repeat (first | refine VC.seq ?_ | refine VC.block ?_ | refine VC.skip ?_)
        refine ⟨_, ResOf.r0 rfl, S', ?_, hS', hm⟩
        rw [← hon', hend (Classical.not_not.1 hne)]
    have hstay : ¬ (stage = 1 ∧ qT (es.map En.abs) td (fun d => d.info) = true) → ¬ (stage = 2 ∧ qT (es.map En.abs) td (fun d => d.pr) = true) → ¬ (stage = 3 ∧ qT (es.map En.abs) td (fun d => d.nw) = true) → onA (Tb.abs ⟨kid, cur, last, A, n, c, es, stage, ep, td, prop, com⟩) = Tb.abs ⟨kid, cur, last, A, n, c, es, stage, ep, td, prop, com⟩ := fun h1 h2 h3 => on_end h1 h2 h3
    repeat (first | refine VC.seq ?_ | refine VC.block ?_ | refine VC.skip ?_)
    repeat (first | refine VC.seq ?_ | refine VC.block ?_ | refine VC.skip ?_)
    refine VC.region ?_
    refine VR.pure rfl rfl (p_eq rfl rfl) ?_
    refine VR.pure rfl rfl (p_assignB rfl) ?_
    refine VR.nil ?_
    repeat (first | refine VC.seq ?_ | refine VC.block ?_ | refine VC.skip ?_)
    refine VC.condD rfl (fun c1 => ?_) (fun c1 => ?_)
    · subst c1
      repeat (first | refine VC.seq ?_ | refine VC.block ?_ | refine VC.skip ?_)
      refine VC.region ?_
      refine VR.pure rfl rfl (p_moveP rfl) ?_
      refine VR.pure rfl rfl (p_moveP rfl) ?_
      refine VR.pure rfl rfl (p_nilCheck rfl) ?_
      refine VR.pure rfl rfl (p_field (fo := 3) Try.underlying47 rfl Try.sizeOf23 rfl rfl rfl) ?_
      refine VR.val rfl rfl (r_load (v := .slice _ _ _) Try.isAgg23 rfl (hm.at_ 0 0 rfl) rfl) ?_
      refine VR.call rfl rfl (r_call3 Try.call37 rfl rfl rfl) (qInfo_c hm.all (hm.plus_at 0 0 rfl) (Nat.le_trans hSnc hSc) (hSrow.mono hm.le)) ?_
      rintro _ w ⟨rfl, hm'⟩
      replace hm := hm.back0 hm'
      refine VR.nil ?_
      by_cases hq : qT (es.map En.abs) td (fun d => d.info) = true
      · repeat (first | refine VC.seq ?_ | refine VC.block ?_ | refine VC.skip ?_)
        refine VC.condT rfl hq ?_
        repeat (first | refine VC.seq ?_ | refine VC.block ?_ | refine VC.skip ?_)
        refine VC.region ?_
        refine VR.pure rfl rfl (p_moveP rfl) ?_
        refine VR.pure rfl rfl (p_nilCheck rfl) ?_
        refine VR.pure rfl rfl (p_field (fo := 6) Try.underlying47 rfl Try.sizeOf45 rfl rfl rfl) ?_
        refine VR.val rfl rfl (r_loadAgg (vs := (told td)) Try.isAgg45 Try.sizeOf45 rfl (hm.at_ 0 0 rfl) rfl (agg_at rfl)) ?_
        refine VR.pure rfl rfl (p_moveI rfl) ?_
        refine VR.nil ?_
        repeat (first | refine VC.seq ?_ | refine VC.block ?_ | refine VC.skip ?_)
        refine VC.loop (σ := Nat) (fun k => [(0, .pointer (some ⟨g, 0, none⟩)), (2, .int .u8 1), (24, .agg (told td).toArray), (25, .int .i64 k)])
          (fun k w => Mem F w ([(g, tOb kid cur last A n c 1 (epAt td ep k) td prop com)] :: Ls) ∧ k ≤ 8) (fun k => 8 - k) 0 ⟨rfl, rfl, rfl, rfl, trivial⟩ ⟨hm, by omega⟩ ?_
        · clear hm
          rintro k A3 w ⟨hm, hk⟩
          repeat (first | refine VC.seq ?_ | refine VC.block ?_ | refine VC.skip ?_)
          refine VC.region ?_
          refine VR.pure rfl rfl (p_lt rfl rfl) ?_
          refine VR.nil ?_
          repeat (first | refine VC.seq ?_ | refine VC.block ?_ | refine VC.skip ?_)
          refine VC.condD rfl (fun hk2 => ?_) (fun hk2 => ?_)
          · have hk7 : k < 8 := by omega
            have hacck := hSacc k hk7
            generalize hep : epAt td ep k = epk at hm
            repeat (first | refine VC.seq ?_ | refine VC.block ?_ | refine VC.skip ?_)
            repeat (first | refine VC.seq ?_ | refine VC.block ?_ | refine VC.skip ?_)
            refine VC.region ?_
            refine VR.pure rfl rfl (p_indexA Try.underlying45 Try.isAgg44 Try.sizeOf44 rfl rfl hk7 (told_at k hk7)) ?_
            refine VR.new hm rfl rfl (n_allocG Try.zeroValue44) ?_
            intro b4 w hm
            refine VR.store (cs' := (td k).cells.toArray) (v := .agg _) Try.sizeOf44 rfl rfl rfl rfl rfl hm 0 0 rfl (Nat.ble_eq.mp rfl) rfl ?_
            intro w hm
            refine VR.nil ?_
            repeat (first | refine VC.seq ?_ | refine VC.block ?_ | refine VC.skip ?_)
            refine VC.free (Kept F ([(b4, .cells (td k).cells.toArray 44 (0, 0))] :: [])) [4, 11] rfl (by kernel_rfl) (Kept.one hm.drew 0 rfl) ?_
            replace hm := hm.drew
            refine VD.pure 0 rfl (by kernel_rfl) rfl rfl (p_moveP rfl) ?_
            refine VD.pure 1 rfl (by kernel_rfl) rfl rfl (p_moveP rfl) ?_
            refine VD.pure 2 rfl (by kernel_rfl) rfl rfl (p_nilCheck rfl) ?_
            refine VD.pure 3 rfl (by kernel_rfl) rfl rfl (p_field (fo := 5) Try.underlying47 rfl Try.sizeOf3 rfl rfl rfl) ?_
            refine VD.pure 5 rfl (by kernel_rfl) rfl rfl (p_field (fo := 1) Try.underlying44 rfl Try.sizeOf3 rfl rfl rfl) ?_
            refine VD.read 6 rfl (by kernel_rfl) rfl rfl (fun w' hw' => r_load (v := .int _ _) Try.isAgg3 rfl (hw'.at_ 0 0 rfl) rfl) ?_
            refine VD.pure 7 rfl (by kernel_rfl) rfl rfl (p_add64 rfl rfl (by omega)) ?_
            refine VD.turn1 4 (by kernel_rfl) ?_
            refine VDT.val rfl rfl rfl (r_load (v := .int _ _) Try.isAgg3 rfl (hm.at_ 1 0 rfl) rfl) (Kept.one hm 0 rfl) ?_
            refine VD.pure 8 rfl (by kernel_rfl) rfl rfl (p_max rfl rfl) ?_
            refine VD.pure 9 rfl (by kernel_rfl) rfl rfl (p_nilCheck rfl) ?_
            refine VD.pure 10 rfl (by kernel_rfl) rfl rfl (p_field (fo := 5) Try.underlying47 rfl Try.sizeOf3 rfl rfl rfl) ?_
            refine VD.turn1 11 (by kernel_rfl) ?_
            refine VDT.store (cs' := (tcl kid cur last A n c 1 (max epk ((td k).acc + 1)) td prop com)) (v := .int _ _) Try.sizeOf3 rfl rfl rfl rfl rfl rfl hm 1 0 rfl (Nat.ble_eq.mp rfl) rfl (fun w' hm' => Kept.one hm' 0 rfl) ?_
            intro w hm
            refine VD.nil (by kernel_rfl) rfl ?_
            repeat (first | refine VC.seq ?_ | refine VC.block ?_ | refine VC.skip ?_)
            refine VC.region ?_
            refine VR.pure rfl rfl (p_add64 rfl rfl (by omega)) ?_
            refine VR.pure rfl rfl (p_moveI rfl) ?_
            refine VR.nil ?_
            exact ⟨k + 1, ⟨rfl, rfl, rfl, rfl, trivial⟩, ⟨by rw [show epAt td ep (k + 1) = max epk ((td k).acc + 1) by rw [← hep]; rfl]; exact hm.pop, by omega⟩, by omega⟩
          · repeat (first | refine VC.seq ?_ | refine VC.block ?_ | refine VC.skip ?_)
            refine VC.exit ?_
            obtain rfl : k = 8 := by omega
            generalize hep : epAt td ep 8 = epk at hm
            have hspr := ts_pr (id := kid) (cur := cur) (last := last) (A := A) (n := n) (c := c) (stage := 2) (ep := epk) (td := td) (prop := prop) (com := com) true kid hk8
            repeat (first | refine VC.seq ?_ | refine VC.block ?_ | refine VC.skip ?_)
            refine VC.loud (fun w' => ∃ st tdd, Mem F w' ([(g, tOb kid cur last A n c st epk tdd prop com)] :: Ls)) [8, 13] rfl (by kernel_rfl) (⟨_, _, hm.drew⟩) ?_
            replace hm := hm.drew
            refine VL.pure rfl rfl rfl (p_moveP rfl) ?_
            refine VL.pure rfl rfl rfl (p_moveP rfl) ?_
            refine VL.pure rfl rfl rfl (p_moveP rfl) ?_
            refine VL.pure rfl rfl rfl (p_nilCheck rfl) ?_
            refine VL.pure rfl rfl rfl (p_field (fo := 0) Try.underlying47 rfl Try.sizeOf3 rfl rfl rfl) ?_
            refine VL.read rfl rfl rfl (fun w' ⟨st, tdd, hw'⟩ => r_load (v := .int _ _) Try.isAgg3 rfl (hw'.at_ 0 0 rfl) rfl) ?_
            refine VL.pure rfl rfl rfl (p_nilCheck rfl) ?_
            refine VL.pure rfl rfl rfl (p_field (fo := 4) Try.underlying47 rfl Try.sizeOf32 rfl rfl rfl) ?_
            refine VL.store (cs' := (tcl kid cur last A n c 2 epk td prop com)) (v := .int _ _) Try.sizeOf32 rfl rfl rfl rfl rfl rfl hm 0 0 rfl (Nat.ble_eq.mp rfl) rfl (fun w' hm' => ⟨_, _, hm'⟩) ?_
            intro w hm
            refine VL.pure rfl rfl rfl (p_nilCheck rfl) ?_
            refine VL.pure rfl rfl rfl (p_field (fo := 6) Try.underlying47 rfl Try.sizeOf45 rfl rfl rfl) ?_
            refine VL.pure rfl rfl rfl (p_idxA Try.underlying45 Try.sizeOf44 rfl rfl hk8) ?_
            refine VL.pure rfl rfl rfl (p_field (fo := 2) Try.underlying44 rfl Try.sizeOf4 rfl rfl rfl) ?_
            refine VL.store (cs' := (tcl kid cur last A n c 2 epk (updT td kid { td kid with pr := true }) prop com)) (v := .bool _) Try.sizeOf4 rfl rfl rfl rfl rfl rfl hm 0 0 rfl (by show 0 + 6 + kid * 5 + 2 + 1 ≤ 48; omega) hspr (fun w' hm' => ⟨_, _, hm'⟩) ?_
            intro w hm
            refine VL.nil ?_
            have hg1 : g1 (Tb.abs ⟨kid, cur, last, A, n, c, es, 1, ep, td, prop, com⟩) = Tb.abs ⟨kid, cur, last, A, n, c, es, 2, epk, updT td kid { td kid with pr := true }, prop, com⟩ := by
              unfold g1
              rw [if_pos ⟨rfl, hq⟩, ← hep]
              rfl
            refine ⟨⟨kid, cur, last, A, n, c, es, 2, epk, updT td kid { td kid with pr := true }, prop, com⟩, ⟨rfl, rfl, trivial⟩, hm, ⟨hSrow, hSn, hSnc, hSc, hSid, fun k hk => ?_⟩, ?_, by show (2 : Int) ≤ 4; omega, fun h => by dsimp only at h; omega, by show (1 : Int) ≤ 2; omega⟩
            · show 0 ≤ (updT td kid _ k).acc ∧ (updT td kid _ k).acc ≤ _
              unfold updT
              split
              · exact hSacc kid hk8
              · exact hSacc k hk
            · rw [← hg1, on_1 rfl hq]
              exact hon
      · repeat (first | refine VC.seq ?_ | refine VC.block ?_ | refine VC.skip ?_)
        refine VC.condF rfl (Bool.not_eq_true _ |>.mp hq) ?_
        repeat (first | refine VC.seq ?_ | refine VC.block ?_ | refine VC.skip ?_)
        exact ⟨⟨kid, cur, last, A, n, c, es, 1, ep, td, prop, com⟩, ⟨rfl, rfl, trivial⟩, hm, hS, hon, h4, fun _ => hstay (fun h => hq h.2) (fun h => absurd h.1 (by decide)) (fun h => absurd h.1 (by decide)), Int.le_refl _⟩
    · repeat (first | refine VC.seq ?_ | refine VC.block ?_ | refine VC.skip ?_)
      refine VC.region ?_
      refine VR.pure rfl rfl (p_eq rfl rfl) ?_
      refine VR.pure rfl rfl (p_assignB rfl) ?_
      refine VR.nil ?_
      repeat (first | refine VC.seq ?_ | refine VC.block ?_ | refine VC.skip ?_)
      refine VC.condD rfl (fun c2 => ?_) (fun c2 => ?_)
      · subst c2
        repeat (first | refine VC.seq ?_ | refine VC.block ?_ | refine VC.skip ?_)
        refine VC.region ?_
        refine VR.pure rfl rfl (p_moveP rfl) ?_
        refine VR.pure rfl rfl (p_moveP rfl) ?_
        refine VR.pure rfl rfl (p_nilCheck rfl) ?_
        refine VR.pure rfl rfl (p_field (fo := 3) Try.underlying47 rfl Try.sizeOf23 rfl rfl rfl) ?_
        refine VR.val rfl rfl (r_load (v := .slice _ _ _) Try.isAgg23 rfl (hm.at_ 0 0 rfl) rfl) ?_
        refine VR.call rfl rfl (r_call3 Try.call37 rfl rfl rfl) (qPr_c hm.all (hm.plus_at 0 0 rfl) (Nat.le_trans hSnc hSc) (hSrow.mono hm.le)) ?_
        rintro _ w ⟨rfl, hm'⟩
        replace hm := hm.back0 hm'
        refine VR.nil ?_
        by_cases hq : qT (es.map En.abs) td (fun d => d.pr) = true
        · repeat (first | refine VC.seq ?_ | refine VC.block ?_ | refine VC.skip ?_)
          refine VC.condT rfl hq ?_
          repeat (first | refine VC.seq ?_ | refine VC.block ?_ | refine VC.skip ?_)
          refine VC.region ?_
          refine VR.pure rfl rfl (p_moveP rfl) ?_
          refine VR.pure rfl rfl (p_nilCheck rfl) ?_
          refine VR.pure rfl rfl (p_field (fo := 4) Try.underlying47 rfl Try.sizeOf32 rfl rfl rfl) ?_
          refine VR.store (cs' := (tcl kid cur last A n c 3 ep td prop com)) (v := .int _ _) Try.sizeOf32 rfl rfl rfl rfl rfl hm 0 0 rfl (Nat.ble_eq.mp rfl) rfl ?_
          intro w hm
          refine VR.nil ?_
          repeat (first | refine VC.seq ?_ | refine VC.block ?_ | refine VC.skip ?_)
          have hg2 : g2 (Tb.abs ⟨kid, cur, last, A, n, c, es, 2, ep, td, prop, com⟩) = Tb.abs ⟨kid, cur, last, A, n, c, es, 3, ep, td, prop, com⟩ := by
            unfold g2
            rw [if_pos ⟨rfl, hq⟩]
            rfl
          exact ⟨⟨kid, cur, last, A, n, c, es, 3, ep, td, prop, com⟩, ⟨rfl, rfl, trivial⟩, hm, ⟨hSrow, hSn, hSnc, hSc, hSid, hSacc⟩, by rw [← hg2, on_2 rfl hq]; exact hon, by show (3 : Int) ≤ 4; omega, fun h => by dsimp only at h; omega, by show (2 : Int) ≤ 3; omega⟩
        · repeat (first | refine VC.seq ?_ | refine VC.block ?_ | refine VC.skip ?_)
          refine VC.condF rfl (Bool.not_eq_true _ |>.mp hq) ?_
          repeat (first | refine VC.seq ?_ | refine VC.block ?_ | refine VC.skip ?_)
          exact ⟨⟨kid, cur, last, A, n, c, es, 2, ep, td, prop, com⟩, ⟨rfl, rfl, trivial⟩, hm, hS, hon, h4, fun _ => hstay (fun h => absurd h.1 (by decide)) (fun h => hq h.2) (fun h => absurd h.1 (by decide)), Int.le_refl _⟩
      · repeat (first | refine VC.seq ?_ | refine VC.block ?_ | refine VC.skip ?_)
        refine VC.region ?_
        refine VR.pure rfl rfl (p_eq rfl rfl) ?_
        refine VR.pure rfl rfl (p_assignB rfl) ?_
        refine VR.nil ?_
        repeat (first | refine VC.seq ?_ | refine VC.block ?_ | refine VC.skip ?_)
        refine VC.condD rfl (fun c3 => ?_) (fun c3 => ?_)
        · subst c3
          repeat (first | refine VC.seq ?_ | refine VC.block ?_ | refine VC.skip ?_)
          refine VC.region ?_
          refine VR.pure rfl rfl (p_moveP rfl) ?_
          refine VR.pure rfl rfl (p_moveP rfl) ?_
          refine VR.pure rfl rfl (p_nilCheck rfl) ?_
          refine VR.pure rfl rfl (p_field (fo := 3) Try.underlying47 rfl Try.sizeOf23 rfl rfl rfl) ?_
          refine VR.val rfl rfl (r_load (v := .slice _ _ _) Try.isAgg23 rfl (hm.at_ 0 0 rfl) rfl) ?_
          refine VR.call rfl rfl (r_call3 Try.call37 rfl rfl rfl) (qNw_c hm.all (hm.plus_at 0 0 rfl) (Nat.le_trans hSnc hSc) (hSrow.mono hm.le)) ?_
          rintro _ w ⟨rfl, hm'⟩
          replace hm := hm.back0 hm'
          refine VR.nil ?_
          by_cases hq : qT (es.map En.abs) td (fun d => d.nw) = true
          · repeat (first | refine VC.seq ?_ | refine VC.block ?_ | refine VC.skip ?_)
            refine VC.condT rfl hq ?_
            repeat (first | refine VC.seq ?_ | refine VC.block ?_ | refine VC.skip ?_)
            refine VC.region ?_
            refine VR.pure rfl rfl (p_moveP rfl) ?_
            refine VR.pure rfl rfl (p_moveP rfl) ?_
            refine VR.pure rfl rfl (p_moveP rfl) ?_
            refine VR.pure rfl rfl (p_nilCheck rfl) ?_
            refine VR.pure rfl rfl (p_field (fo := 2) Try.underlying47 rfl Try.sizeOf22 rfl rfl rfl) ?_
            refine VR.val rfl rfl (r_load (v := .int _ _) Try.isAgg22 rfl (hm.at_ 0 0 rfl) rfl) ?_
            refine VR.pure rfl rfl (p_nilCheck rfl) ?_
            refine VR.pure rfl rfl (p_field (fo := 4) Try.underlying47 rfl Try.sizeOf32 rfl rfl rfl) ?_
            refine VR.store (cs' := (tcl kid cur last A n c 4 ep td prop com)) (v := .int _ _) Try.sizeOf32 rfl rfl rfl rfl rfl hm 0 0 rfl (Nat.ble_eq.mp rfl) rfl ?_
            intro w hm
            refine VR.pure rfl rfl (p_nilCheck rfl) ?_
            refine VR.pure rfl rfl (p_field (fo := 47) Try.underlying47 rfl Try.sizeOf22 rfl rfl rfl) ?_
            refine VR.store (cs' := (tcl kid cur last A n c 4 ep td prop last)) (v := .int _ _) Try.sizeOf22 rfl rfl rfl rfl rfl hm 0 0 rfl (Nat.ble_eq.mp rfl) rfl ?_
            intro w hm
            refine VR.nil ?_
            obtain ⟨A', hA', hrow'⟩ := hSrow.drop (l := n - 1) (by omega) hSnc
            repeat (first | refine VC.seq ?_ | refine VC.block ?_ | refine VC.skip ?_)
            refine VC.free (Kept F []) [4, 8, 14] rfl (by kernel_rfl) (Kept.of0 hm.drew) ?_
            replace hm := hm.drew
            refine VD.pure 0 rfl (by kernel_rfl) rfl rfl (p_moveP rfl) ?_
            refine VD.pure 1 rfl (by kernel_rfl) rfl rfl (p_moveP rfl) ?_
            refine VD.pure 2 rfl (by kernel_rfl) rfl rfl (p_nilCheck rfl) ?_
            refine VD.pure 3 rfl (by kernel_rfl) rfl rfl (p_field (fo := 3) Try.underlying47 rfl Try.sizeOf23 rfl rfl rfl) ?_
            refine VD.pure 5 rfl (by kernel_rfl) rfl rfl (p_moveP rfl) ?_
            refine VD.pure 6 rfl (by kernel_rfl) rfl rfl (p_nilCheck rfl) ?_
            refine VD.pure 7 rfl (by kernel_rfl) rfl rfl (p_field (fo := 3) Try.underlying47 rfl Try.sizeOf23 rfl rfl rfl) ?_
            refine VD.turn2 4 8 (by kernel_rfl) ?_ ?_
            refine VDT.val rfl rfl rfl (r_load (v := .slice _ _ _) Try.isAgg23 rfl (hm.at_ 0 0 rfl) rfl) (Kept.of0 hm) ?_
            refine VD.turn1 8 (by kernel_rfl) ?_
            refine VDT.val rfl rfl rfl (r_load (v := .slice _ _ _) Try.isAgg23 rfl (hm.at_ 0 0 rfl) rfl) (Kept.of0 hm) ?_
            refine VD.pure 9 rfl (by kernel_rfl) rfl rfl (p_len Try.underlying23 rfl) ?_
            refine VD.pure 10 rfl (by kernel_rfl) rfl rfl (p_sub64E (r := ((n - 1 : Nat) : Int)) rfl rfl (by omega) (by omega)) ?_
            refine VD.pure 11 rfl (by kernel_rfl) rfl rfl (p_sliceLE Try.underlying23 Try.sizeOf54 rfl rfl (by omega) hA' rfl rfl) ?_
            refine VD.pure 12 rfl (by kernel_rfl) rfl rfl (p_nilCheck rfl) ?_
            refine VD.pure 13 rfl (by kernel_rfl) rfl rfl (p_field (fo := 3) Try.underlying47 rfl Try.sizeOf23 rfl rfl rfl) ?_
            refine VD.turn1 14 (by kernel_rfl) ?_
            refine VDT.store (cs' := (tcl kid cur last A' (n - (n - 1)) (c - (n - 1)) 4 ep td prop last)) (v := .slice _ _ _) Try.sizeOf23 rfl rfl rfl rfl rfl rfl hm 0 0 rfl (Nat.ble_eq.mp rfl) rfl (fun w' hm' => Kept.of0 hm') ?_
            intro w hm
            refine VD.nil (by kernel_rfl) rfl ?_
            rotate_left 1
            refine VDT.val rfl rfl rfl (r_load (v := .slice _ _ _) Try.isAgg23 rfl (hm.at_ 0 0 rfl) rfl) (Kept.of0 hm) ?_
            refine VD.pure 9 rfl (by kernel_rfl) rfl rfl (p_len Try.underlying23 rfl) ?_
            refine VD.pure 10 rfl (by kernel_rfl) rfl rfl (p_sub64E (r := ((n - 1 : Nat) : Int)) rfl rfl (by omega) (by omega)) ?_
            refine VD.turn1 4 (by kernel_rfl) ?_
            refine VDT.val rfl rfl rfl (r_load (v := .slice _ _ _) Try.isAgg23 rfl (hm.at_ 0 0 rfl) rfl) (Kept.of0 hm) ?_
            refine VD.pure 11 rfl (by kernel_rfl) rfl rfl (p_sliceLE Try.underlying23 Try.sizeOf54 rfl rfl (by omega) hA' rfl rfl) ?_
            refine VD.pure 12 rfl (by kernel_rfl) rfl rfl (p_nilCheck rfl) ?_
            refine VD.pure 13 rfl (by kernel_rfl) rfl rfl (p_field (fo := 3) Try.underlying47 rfl Try.sizeOf23 rfl rfl rfl) ?_
            refine VD.turn1 14 (by kernel_rfl) ?_
            refine VDT.store (cs' := (tcl kid cur last A' (n - (n - 1)) (c - (n - 1)) 4 ep td prop last)) (v := .slice _ _ _) Try.sizeOf23 rfl rfl rfl rfl rfl rfl hm 0 0 rfl (Nat.ble_eq.mp rfl) rfl (fun w' hm' => Kept.of0 hm') ?_
            intro w hm
            refine VD.nil (by kernel_rfl) rfl ?_
            rotate_left 1
            all_goals
              have hg3 : g3 (Tb.abs ⟨kid, cur, last, A, n, c, es, 3, ep, td, prop, com⟩) = Tb.abs ⟨kid, cur, last, A', n - (n - 1), c - (n - 1), es.drop (n - 1), 4, ep, td, prop, last⟩ := by
                unfold g3
                rw [if_pos ⟨rfl, hq⟩]
                unfold Tb.abs
                dsimp only
                rw [List.length_map, hlen, List.map_drop]
              refine ⟨⟨kid, cur, last, A', n - (n - 1), c - (n - 1), es.drop (n - 1), 4, ep, td, prop, last⟩, ⟨rfl, rfl, trivial⟩, hm, ⟨hrow', by show 1 ≤ n - (n - 1); omega, by show n - (n - 1) ≤ c - (n - 1); omega, by show c - (n - 1) ≤ maxLen; omega, hSid, hSacc⟩, by rw [← hg3, on_3 rfl hq]; exact hon, by show (4 : Int) ≤ 4; omega, fun h => by dsimp only at h; omega, by show (3 : Int) ≤ 4; omega⟩
          · repeat (first | refine VC.seq ?_ | refine VC.block ?_ | refine VC.skip ?_)
            refine VC.condF rfl (Bool.not_eq_true _ |>.mp hq) ?_
            repeat (first | refine VC.seq ?_ | refine VC.block ?_ | refine VC.skip ?_)
            exact ⟨⟨kid, cur, last, A, n, c, es, 3, ep, td, prop, com⟩, ⟨rfl, rfl, trivial⟩, hm, hS, hon, h4, fun _ => hstay (fun h => absurd h.1 (by decide)) (fun h => absurd h.1 (by decide)) (fun h => hq h.2), Int.le_refl _⟩
        · repeat (first | refine VC.seq ?_ | refine VC.block ?_ | refine VC.skip ?_)
          exact ⟨⟨kid, cur, last, A, n, c, es, stage, ep, td, prop, com⟩, ⟨rfl, rfl, trivial⟩, hm, hS, hon, h4, fun _ => hstay (fun h => c1 h.1) (fun h => c2 h.1) (fun h => c3 h.1), Int.le_refl _⟩
  · rintro ⟨id, cur, last, A, n, c, es, stage, ep, td, prop, com⟩ A2 w ⟨hm, hS, hon, h4⟩
    have hSrow := hS.row
    have hSn := hS.n
    have hSnc := hS.nc
    have hSc := hS.c
    have hSid := hS.id
    have hSacc := hS.acc
    dsimp only at hm hSrow hSn hSnc hSc hSid hSacc h4
    have hlen := hSrow.len
    have hSc2 := hSc
    unfold maxLen at hSc2
    obtain ⟨kid, rfl, hk8⟩ : ∃ q : Nat, id = q ∧ q < 8 := ⟨id.toNat, by omega, by omega⟩
    repeat (first | refine VC.seq ?_ | refine VC.block ?_ | refine VC.skip ?_)
    refine VC.region ?_
    refine VR.pure rfl rfl (p_moveP rfl) ?_
    refine VR.pure rfl rfl (p_nilCheck rfl) ?_
    refine VR.pure rfl rfl (p_field (fo := 4) Try.underlying47 rfl Try.sizeOf32 rfl rfl rfl) ?_
    refine VR.val rfl rfl (r_load (v := .int _ _) Try.isAgg32 rfl (hm.at_ 0 0 rfl) rfl) ?_
    refine VR.pure rfl rfl (p_assignI rfl) ?_
    refine VR.nil ?_
    repeat (first | refine VC.seq ?_ | refine VC.block ?_ | refine VC.skip ?_)
    refine VC.region ?_
    refine VR.pure rfl rfl (p_moveP rfl) ?_
    refine VR.pure rfl rfl (p_nilCheck rfl) ?_
    refine VR.pure rfl rfl (p_field (fo := 4) Try.underlying47 rfl Try.sizeOf32 rfl rfl rfl) ?_
    refine VR.val rfl rfl (r_load (v := .int _ _) Try.isAgg32 rfl (hm.at_ 0 0 rfl) rfl) ?_
    refine VR.nil ?_
    refine VC.meet (σ := Tb) (fun S' => [(0, .pointer (some ⟨g, 0, none⟩)), (2, .int .u8 stage)])
      (fun S' w => Mem F w ([(g, S'.ob)] :: Ls) ∧ TOk F.heap S' ∧ onA S'.abs = onA T0.abs ∧ S'.stage ≤ 4 ∧ (S'.stage = stage → onA S'.abs = S'.abs) ∧ stage ≤ S'.stage) ?_ ?_
    rotate_left
    · clear hm hS hSrow hSacc hon
      rintro S' A9 w ⟨hm, hS', hon', h4', hend, hle⟩
      repeat (first | refine VC.seq ?_ | refine VC.block ?_ | refine VC.skip ?_)
      refine VC.region ?_
      refine VR.pure rfl rfl (p_moveP rfl) ?_
      refine VR.pure rfl rfl (p_nilCheck rfl) ?_
      refine VR.pure rfl rfl (p_field (fo := 4) Try.underlying47 rfl Try.sizeOf32 rfl rfl rfl) ?_
      refine VR.val rfl rfl (r_load (v := .int _ _) Try.isAgg32 rfl (hm.at_ 0 0 rfl) rfl) ?_
      refine VR.pure rfl rfl (p_moveI rfl) ?_
      refine VR.pure rfl rfl (p_ne rfl rfl) ?_
      refine VR.nil ?_
      repeat (first | refine VC.seq ?_ | refine VC.block ?_ | refine VC.skip ?_)
      refine VC.condD rfl (fun hne => ?_) (fun hne => ?_)
      · refine VC.goto ?_
        first
          | exact ⟨S', ⟨rfl, trivial⟩, ⟨hm, hS', hon', h4'⟩, (by show (5 - S'.stage).toNat < (5 - stage).toNat; omega)⟩
          | exact ⟨S', ⟨rfl, trivial⟩, hm, hS', hon', h4'⟩
      · repeat (first | refine VC.seq ?_ | refine VC.block ?_ | refine VC.skip ?_)
        refine ⟨_, ResOf.r0 rfl, S', ?_, hS', hm⟩
        rw [← hon', hend (Classical.not_not.1 hne)]
    have hstay : ¬ (stage = 1 ∧ qT (es.map En.abs) td (fun d => d.info) = true) → ¬ (stage = 2 ∧ qT (es.map En.abs) td (fun d => d.pr) = true) → ¬ (stage = 3 ∧ qT (es.map En.abs) td (fun d => d.nw) = true) → onA (Tb.abs ⟨kid, cur, last, A, n, c, es, stage, ep, td, prop, com⟩) = Tb.abs ⟨kid, cur, last, A, n, c, es, stage, ep, td, prop, com⟩ := fun h1 h2 h3 => on_end h1 h2 h3
    repeat (first | refine VC.seq ?_ | refine VC.block ?_ | refine VC.skip ?_)
    repeat (first | refine VC.seq ?_ | refine VC.block ?_ | refine VC.skip ?_)
    refine VC.region ?_
    refine VR.pure rfl rfl (p_eq rfl rfl) ?_
    refine VR.pure rfl rfl (p_assignB rfl) ?_
    refine VR.nil ?_
    repeat (first | refine VC.seq ?_ | refine VC.block ?_ | refine VC.skip ?_)
    refine VC.condD rfl (fun c1 => ?_) (fun c1 => ?_)
    · subst c1
      repeat (first | refine VC.seq ?_ | refine VC.block ?_ | refine VC.skip ?_)
      refine VC.region ?_
      refine VR.pure rfl rfl (p_moveP rfl) ?_
      refine VR.pure rfl rfl (p_moveP rfl) ?_
      refine VR.pure rfl rfl (p_nilCheck rfl) ?_
      refine VR.pure rfl rfl (p_field (fo := 3) Try.underlying47 rfl Try.sizeOf23 rfl rfl rfl) ?_
      refine VR.val rfl rfl (r_load (v := .slice _ _ _) Try.isAgg23 rfl (hm.at_ 0 0 rfl) rfl) ?_
      refine VR.call rfl rfl (r_call3 Try.call37 rfl rfl rfl) (qInfo_c hm.all (hm.plus_at 0 0 rfl) (Nat.le_trans hSnc hSc) (hSrow.mono hm.le)) ?_
      rintro _ w ⟨rfl, hm'⟩
      replace hm := hm.back0 hm'
      refine VR.nil ?_
      by_cases hq : qT (es.map En.abs) td (fun d => d.info) = true
      · repeat (first | refine VC.seq ?_ | refine VC.block ?_ | refine VC.skip ?_)
        refine VC.condT rfl hq ?_
        repeat (first | refine VC.seq ?_ | refine VC.block ?_ | refine VC.skip ?_)
        refine VC.region ?_
        refine VR.pure rfl rfl (p_moveP rfl) ?_
        refine VR.pure rfl rfl (p_nilCheck rfl) ?_
        refine VR.pure rfl rfl (p_field (fo := 6) Try.underlying47 rfl Try.sizeOf45 rfl rfl rfl) ?_
        refine VR.val rfl rfl (r_loadAgg (vs := (told td)) Try.isAgg45 Try.sizeOf45 rfl (hm.at_ 0 0 rfl) rfl (agg_at rfl)) ?_
        refine VR.pure rfl rfl (p_moveI rfl) ?_
        refine VR.nil ?_
        repeat (first | refine VC.seq ?_ | refine VC.block ?_ | refine VC.skip ?_)
        refine VC.loop (σ := Nat) (fun k => [(0, .pointer (some ⟨g, 0, none⟩)), (2, .int .u8 1), (24, .agg (told td).toArray), (25, .int .i64 k)])
          (fun k w => Mem F w ([(g, tOb kid cur last A n c 1 (epAt td ep k) td prop com)] :: Ls) ∧ k ≤ 8) (fun k => 8 - k) 0 ⟨rfl, rfl, rfl, rfl, trivial⟩ ⟨hm, by omega⟩ ?_
        · clear hm
          rintro k A3 w ⟨hm, hk⟩
          repeat (first | refine VC.seq ?_ | refine VC.block ?_ | refine VC.skip ?_)
          refine VC.region ?_
          refine VR.pure rfl rfl (p_lt rfl rfl) ?_
          refine VR.nil ?_
          repeat (first | refine VC.seq ?_ | refine VC.block ?_ | refine VC.skip ?_)
          refine VC.condD rfl (fun hk2 => ?_) (fun hk2 => ?_)
          · have hk7 : k < 8 := by omega
            have hacck := hSacc k hk7
            generalize hep : epAt td ep k = epk at hm
            repeat (first | refine VC.seq ?_ | refine VC.block ?_ | refine VC.skip ?_)
            repeat (first | refine VC.seq ?_ | refine VC.block ?_ | refine VC.skip ?_)
            refine VC.region ?_
            refine VR.pure rfl rfl (p_indexA Try.underlying45 Try.isAgg44 Try.sizeOf44 rfl rfl hk7 (told_at k hk7)) ?_
            refine VR.new hm rfl rfl (n_allocG Try.zeroValue44) ?_
            intro b4 w hm
            refine VR.store (cs' := (td k).cells.toArray) (v := .agg _) Try.sizeOf44 rfl rfl rfl rfl rfl hm 0 0 rfl (Nat.ble_eq.mp rfl) rfl ?_
            intro w hm
            refine VR.nil ?_
            repeat (first | refine VC.seq ?_ | refine VC.block ?_ | refine VC.skip ?_)
            refine VC.free (Kept F ([(b4, .cells (td k).cells.toArray 44 (0, 0))] :: [])) [4, 11] rfl (by kernel_rfl) (Kept.one hm.drew 0 rfl) ?_
            replace hm := hm.drew
            refine VD.pure 0 rfl (by kernel_rfl) rfl rfl (p_moveP rfl) ?_
            refine VD.pure 1 rfl (by kernel_rfl) rfl rfl (p_moveP rfl) ?_
            refine VD.pure 2 rfl (by kernel_rfl) rfl rfl (p_nilCheck rfl) ?_
            refine VD.pure 3 rfl (by kernel_rfl) rfl rfl (p_field (fo := 5) Try.underlying47 rfl Try.sizeOf3 rfl rfl rfl) ?_
            refine VD.pure 5 rfl (by kernel_rfl) rfl rfl (p_field (fo := 1) Try.underlying44 rfl Try.sizeOf3 rfl rfl rfl) ?_
            refine VD.read 6 rfl (by kernel_rfl) rfl rfl (fun w' hw' => r_load (v := .int _ _) Try.isAgg3 rfl (hw'.at_ 0 0 rfl) rfl) ?_
            refine VD.pure 7 rfl (by kernel_rfl) rfl rfl (p_add64 rfl rfl (by omega)) ?_
            refine VD.turn1 4 (by kernel_rfl) ?_
            refine VDT.val rfl rfl rfl (r_load (v := .int _ _) Try.isAgg3 rfl (hm.at_ 1 0 rfl) rfl) (Kept.one hm 0 rfl) ?_
            refine VD.pure 8 rfl (by kernel_rfl) rfl rfl (p_max rfl rfl) ?_
            refine VD.pure 9 rfl (by kernel_rfl) rfl rfl (p_nilCheck rfl) ?_
            refine VD.pure 10 rfl (by kernel_rfl) rfl rfl (p_field (fo := 5) Try.underlying47 rfl Try.sizeOf3 rfl rfl rfl) ?_
            refine VD.turn1 11 (by kernel_rfl) ?_
            refine VDT.store (cs' := (tcl kid cur last A n c 1 (max epk ((td k).acc + 1)) td prop com)) (v := .int _ _) Try.sizeOf3 rfl rfl rfl rfl rfl rfl hm 1 0 rfl (Nat.ble_eq.mp rfl) rfl (fun w' hm' => Kept.one hm' 0 rfl) ?_
            intro w hm
            refine VD.nil (by kernel_rfl) rfl ?_
            repeat (first | refine VC.seq ?_ | refine VC.block ?_ | refine VC.skip ?_)
            refine VC.region ?_
            refine VR.pure rfl rfl (p_add64 rfl rfl (by omega)) ?_
            refine VR.pure rfl rfl (p_moveI rfl) ?_
            refine VR.nil ?_
            exact ⟨k + 1, ⟨rfl, rfl, rfl, rfl, trivial⟩, ⟨by rw [show epAt td ep (k + 1) = max epk ((td k).acc + 1) by rw [← hep]; rfl]; exact hm.pop, by omega⟩, by omega⟩
          · repeat (first | refine VC.seq ?_ | refine VC.block ?_ | refine VC.skip ?_)
            refine VC.exit ?_
            obtain rfl : k = 8 := by omega
            generalize hep : epAt td ep 8 = epk at hm
            have hspr := ts_pr (id := kid) (cur := cur) (last := last) (A := A) (n := n) (c := c) (stage := 2) (ep := epk) (td := td) (prop := prop) (com := com) true kid hk8
            repeat (first | refine VC.seq ?_ | refine VC.block ?_ | refine VC.skip ?_)
            refine VC.loud (fun w' => ∃ st tdd, Mem F w' ([(g, tOb kid cur last A n c st epk tdd prop com)] :: Ls)) [8, 13] rfl (by kernel_rfl) (⟨_, _, hm.drew⟩) ?_
            replace hm := hm.drew
            refine VL.pure rfl rfl rfl (p_moveP rfl) ?_
            refine VL.pure rfl rfl rfl (p_moveP rfl) ?_
            refine VL.pure rfl rfl rfl (p_moveP rfl) ?_
            refine VL.pure rfl rfl rfl (p_nilCheck rfl) ?_
            refine VL.pure rfl rfl rfl (p_field (fo := 0) Try.underlying47 rfl Try.sizeOf3 rfl rfl rfl) ?_
            refine VL.read rfl rfl rfl (fun w' ⟨st, tdd, hw'⟩ => r_load (v := .int _ _) Try.isAgg3 rfl (hw'.at_ 0 0 rfl) rfl) ?_
            refine VL.pure rfl rfl rfl (p_nilCheck rfl) ?_
            refine VL.pure rfl rfl rfl (p_field (fo := 4) Try.underlying47 rfl Try.sizeOf32 rfl rfl rfl) ?_
            refine VL.store (cs' := (tcl kid cur last A n c 2 epk td prop com)) (v := .int _ _) Try.sizeOf32 rfl rfl rfl rfl rfl rfl hm 0 0 rfl (Nat.ble_eq.mp rfl) rfl (fun w' hm' => ⟨_, _, hm'⟩) ?_
            intro w hm
            refine VL.pure rfl rfl rfl (p_nilCheck rfl) ?_
            refine VL.pure rfl rfl rfl (p_field (fo := 6) Try.underlying47 rfl Try.sizeOf45 rfl rfl rfl) ?_
            refine VL.pure rfl rfl rfl (p_idxA Try.underlying45 Try.sizeOf44 rfl rfl hk8) ?_
            refine VL.pure rfl rfl rfl (p_field (fo := 2) Try.underlying44 rfl Try.sizeOf4 rfl rfl rfl) ?_
            refine VL.store (cs' := (tcl kid cur last A n c 2 epk (updT td kid { td kid with pr := true }) prop com)) (v := .bool _) Try.sizeOf4 rfl rfl rfl rfl rfl rfl hm 0 0 rfl (by show 0 + 6 + kid * 5 + 2 + 1 ≤ 48; omega) hspr (fun w' hm' => ⟨_, _, hm'⟩) ?_
            intro w hm
            refine VL.nil ?_
            have hg1 : g1 (Tb.abs ⟨kid, cur, last, A, n, c, es, 1, ep, td, prop, com⟩) = Tb.abs ⟨kid, cur, last, A, n, c, es, 2, epk, updT td kid { td kid with pr := true }, prop, com⟩ := by
              unfold g1
              rw [if_pos ⟨rfl, hq⟩, ← hep]
              rfl
            refine ⟨⟨kid, cur, last, A, n, c, es, 2, epk, updT td kid { td kid with pr := true }, prop, com⟩, ⟨rfl, rfl, trivial⟩, hm, ⟨hSrow, hSn, hSnc, hSc, hSid, fun k hk => ?_⟩, ?_, by show (2 : Int) ≤ 4; omega, fun h => by dsimp only at h; omega, by show (1 : Int) ≤ 2; omega⟩
            · show 0 ≤ (updT td kid _ k).acc ∧ (updT td kid _ k).acc ≤ _
              unfold updT
              split
              · exact hSacc kid hk8
              · exact hSacc k hk
            · rw [← hg1, on_1 rfl hq]
              exact hon
      · repeat (first | refine VC.seq ?_ | refine VC.block ?_ | refine VC.skip ?_)
        refine VC.condF rfl (Bool.not_eq_true _ |>.mp hq) ?_
        repeat (first | refine VC.seq ?_ | refine VC.block ?_ | refine VC.skip ?_)
        exact ⟨⟨kid, cur, last, A, n, c, es, 1, ep, td, prop, com⟩, ⟨rfl, rfl, trivial⟩, hm, hS, hon, h4, fun _ => hstay (fun h => hq h.2) (fun h => absurd h.1 (by decide)) (fun h => absurd h.1 (by decide)), Int.le_refl _⟩
    · repeat (first | refine VC.seq ?_ | refine VC.block ?_ | refine VC.skip ?_)
      refine VC.region ?_
      refine VR.pure rfl rfl (p_eq rfl rfl) ?_
      refine VR.pure rfl rfl (p_assignB rfl) ?_
      refine VR.nil ?_
      repeat (first | refine VC.seq ?_ | refine VC.block ?_ | refine VC.skip ?_)
      refine VC.condD rfl (fun c2 => ?_) (fun c2 => ?_)
      · subst c2
        repeat (first | refine VC.seq ?_ | refine VC.block ?_ | refine VC.skip ?_)
        refine VC.region ?_
        refine VR.pure rfl rfl (p_moveP rfl) ?_
        refine VR.pure rfl rfl (p_moveP rfl) ?_
        refine VR.pure rfl rfl (p_nilCheck rfl) ?_
        refine VR.pure rfl rfl (p_field (fo := 3) Try.underlying47 rfl Try.sizeOf23 rfl rfl rfl) ?_
        refine VR.val rfl rfl (r_load (v := .slice _ _ _) Try.isAgg23 rfl (hm.at_ 0 0 rfl) rfl) ?_
        refine VR.call rfl rfl (r_call3 Try.call37 rfl rfl rfl) (qPr_c hm.all (hm.plus_at 0 0 rfl) (Nat.le_trans hSnc hSc) (hSrow.mono hm.le)) ?_
        rintro _ w ⟨rfl, hm'⟩
        replace hm := hm.back0 hm'
        refine VR.nil ?_
        by_cases hq : qT (es.map En.abs) td (fun d => d.pr) = true
        · repeat (first | refine VC.seq ?_ | refine VC.block ?_ | refine VC.skip ?_)
          refine VC.condT rfl hq ?_
          repeat (first | refine VC.seq ?_ | refine VC.block ?_ | refine VC.skip ?_)
          refine VC.region ?_
          refine VR.pure rfl rfl (p_moveP rfl) ?_
          refine VR.pure rfl rfl (p_nilCheck rfl) ?_
          refine VR.pure rfl rfl (p_field (fo := 4) Try.underlying47 rfl Try.sizeOf32 rfl rfl rfl) ?_
          refine VR.store (cs' := (tcl kid cur last A n c 3 ep td prop com)) (v := .int _ _) Try.sizeOf32 rfl rfl rfl rfl rfl hm 0 0 rfl (Nat.ble_eq.mp rfl) rfl ?_
          intro w hm
          refine VR.nil ?_
          repeat (first | refine VC.seq ?_ | refine VC.block ?_ | refine VC.skip ?_)
          have hg2 : g2 (Tb.abs ⟨kid, cur, last, A, n, c, es, 2, ep, td, prop, com⟩) = Tb.abs ⟨kid, cur, last, A, n, c, es, 3, ep, td, prop, com⟩ := by
            unfold g2
            rw [if_pos ⟨rfl, hq⟩]
            rfl
          exact ⟨⟨kid, cur, last, A, n, c, es, 3, ep, td, prop, com⟩, ⟨rfl, rfl, trivial⟩, hm, ⟨hSrow, hSn, hSnc, hSc, hSid, hSacc⟩, by rw [← hg2, on_2 rfl hq]; exact hon, by show (3 : Int) ≤ 4; omega, fun h => by dsimp only at h; omega, by show (2 : Int) ≤ 3; omega⟩
        · repeat (first | refine VC.seq ?_ | refine VC.block ?_ | refine VC.skip ?_)
          refine VC.condF rfl (Bool.not_eq_true _ |>.mp hq) ?_
          repeat (first | refine VC.seq ?_ | refine VC.block ?_ | refine VC.skip ?_)
          exact ⟨⟨kid, cur, last, A, n, c, es, 2, ep, td, prop, com⟩, ⟨rfl, rfl, trivial⟩, hm, hS, hon, h4, fun _ => hstay (fun h => absurd h.1 (by decide)) (fun h => hq h.2) (fun h => absurd h.1 (by decide)), Int.le_refl _⟩
      · repeat (first | refine VC.seq ?_ | refine VC.block ?_ | refine VC.skip ?_)
        refine VC.region ?_
        refine VR.pure rfl rfl (p_eq rfl rfl) ?_
        refine VR.pure rfl rfl (p_assignB rfl) ?_
        refine VR.nil ?_
        repeat (first | refine VC.seq ?_ | refine VC.block ?_ | refine VC.skip ?_)
        refine VC.condD rfl (fun c3 => ?_) (fun c3 => ?_)
        · subst c3
          repeat (first | refine VC.seq ?_ | refine VC.block ?_ | refine VC.skip ?_)
          refine VC.region ?_
          refine VR.pure rfl rfl (p_moveP rfl) ?_
          refine VR.pure rfl rfl (p_moveP rfl) ?_
          refine VR.pure rfl rfl (p_nilCheck rfl) ?_
          refine VR.pure rfl rfl (p_field (fo := 3) Try.underlying47 rfl Try.sizeOf23 rfl rfl rfl) ?_
          refine VR.val rfl rfl (r_load (v := .slice _ _ _) Try.isAgg23 rfl (hm.at_ 0 0 rfl) rfl) ?_
          refine VR.call rfl rfl (r_call3 Try.call37 rfl rfl rfl) (qNw_c hm.all (hm.plus_at 0 0 rfl) (Nat.le_trans hSnc hSc) (hSrow.mono hm.le)) ?_
          rintro _ w ⟨rfl, hm'⟩
          replace hm := hm.back0 hm'
          refine VR.nil ?_
          by_cases hq : qT (es.map En.abs) td (fun d => d.nw) = true
          · repeat (first | refine VC.seq ?_ | refine VC.block ?_ | refine VC.skip ?_)
            refine VC.condT rfl hq ?_
            repeat (first | refine VC.seq ?_ | refine VC.block ?_ | refine VC.skip ?_)
            refine VC.region ?_
            refine VR.pure rfl rfl (p_moveP rfl) ?_
            refine VR.pure rfl rfl (p_moveP rfl) ?_
            refine VR.pure rfl rfl (p_moveP rfl) ?_
            refine VR.pure rfl rfl (p_nilCheck rfl) ?_
            refine VR.pure rfl rfl (p_field (fo := 2) Try.underlying47 rfl Try.sizeOf22 rfl rfl rfl) ?_
            refine VR.val rfl rfl (r_load (v := .int _ _) Try.isAgg22 rfl (hm.at_ 0 0 rfl) rfl) ?_
            refine VR.pure rfl rfl (p_nilCheck rfl) ?_
            refine VR.pure rfl rfl (p_field (fo := 4) Try.underlying47 rfl Try.sizeOf32 rfl rfl rfl) ?_
            refine VR.store (cs' := (tcl kid cur last A n c 4 ep td prop com)) (v := .int _ _) Try.sizeOf32 rfl rfl rfl rfl rfl hm 0 0 rfl (Nat.ble_eq.mp rfl) rfl ?_
            intro w hm
            refine VR.pure rfl rfl (p_nilCheck rfl) ?_
            refine VR.pure rfl rfl (p_field (fo := 47) Try.underlying47 rfl Try.sizeOf22 rfl rfl rfl) ?_
            refine VR.store (cs' := (tcl kid cur last A n c 4 ep td prop last)) (v := .int _ _) Try.sizeOf22 rfl rfl rfl rfl rfl hm 0 0 rfl (Nat.ble_eq.mp rfl) rfl ?_
            intro w hm
            refine VR.nil ?_
            obtain ⟨A', hA', hrow'⟩ := hSrow.drop (l := n - 1) (by omega) hSnc
            repeat (first | refine VC.seq ?_ | refine VC.block ?_ | refine VC.skip ?_)
            refine VC.free (Kept F []) [4, 8, 14] rfl (by kernel_rfl) (Kept.of0 hm.drew) ?_
            replace hm := hm.drew
            refine VD.pure 0 rfl (by kernel_rfl) rfl rfl (p_moveP rfl) ?_
            refine VD.pure 1 rfl (by kernel_rfl) rfl rfl (p_moveP rfl) ?_
            refine VD.pure 2 rfl (by kernel_rfl) rfl rfl (p_nilCheck rfl) ?_
            refine VD.pure 3 rfl (by kernel_rfl) rfl rfl (p_field (fo := 3) Try.underlying47 rfl Try.sizeOf23 rfl rfl rfl) ?_
            refine VD.pure 5 rfl (by kernel_rfl) rfl rfl (p_moveP rfl) ?_
            refine VD.pure 6 rfl (by kernel_rfl) rfl rfl (p_nilCheck rfl) ?_
            refine VD.pure 7 rfl (by kernel_rfl) rfl rfl (p_field (fo := 3) Try.underlying47 rfl Try.sizeOf23 rfl rfl rfl) ?_
            refine VD.turn2 4 8 (by kernel_rfl) ?_ ?_
            refine VDT.val rfl rfl rfl (r_load (v := .slice _ _ _) Try.isAgg23 rfl (hm.at_ 0 0 rfl) rfl) (Kept.of0 hm) ?_
            refine VD.turn1 8 (by kernel_rfl) ?_
            refine VDT.val rfl rfl rfl (r_load (v := .slice _ _ _) Try.isAgg23 rfl (hm.at_ 0 0 rfl) rfl) (Kept.of0 hm) ?_
            refine VD.pure 9 rfl (by kernel_rfl) rfl rfl (p_len Try.underlying23 rfl) ?_
            refine VD.pure 10 rfl (by kernel_rfl) rfl rfl (p_sub64E (r := ((n - 1 : Nat) : Int)) rfl rfl (by omega) (by omega)) ?_
            refine VD.pure 11 rfl (by kernel_rfl) rfl rfl (p_sliceLE Try.underlying23 Try.sizeOf54 rfl rfl (by omega) hA' rfl rfl) ?_
            refine VD.pure 12 rfl (by kernel_rfl) rfl rfl (p_nilCheck rfl) ?_
            refine VD.pure 13 rfl (by kernel_rfl) rfl rfl (p_field (fo := 3) Try.underlying47 rfl Try.sizeOf23 rfl rfl rfl) ?_
            refine VD.turn1 14 (by kernel_rfl) ?_
            refine VDT.store (cs' := (tcl kid cur last A' (n - (n - 1)) (c - (n - 1)) 4 ep td prop last)) (v := .slice _ _ _) Try.sizeOf23 rfl rfl rfl rfl rfl rfl hm 0 0 rfl (Nat.ble_eq.mp rfl) rfl (fun w' hm' => Kept.of0 hm') ?_
            intro w hm
            refine VD.nil (by kernel_rfl) rfl ?_
            rotate_left 1
            refine VDT.val rfl rfl rfl (r_load (v := .slice _ _ _) Try.isAgg23 rfl (hm.at_ 0 0 rfl) rfl) (Kept.of0 hm) ?_
            refine VD.pure 9 rfl (by kernel_rfl) rfl rfl (p_len Try.underlying23 rfl) ?_
            refine VD.pure 10 rfl (by kernel_rfl) rfl rfl (p_sub64E (r := ((n - 1 : Nat) : Int)) rfl rfl (by omega) (by omega)) ?_
            refine VD.turn1 4 (by kernel_rfl) ?_
            refine VDT.val rfl rfl rfl (r_load (v := .slice _ _ _) Try.isAgg23 rfl (hm.at_ 0 0 rfl) rfl) (Kept.of0 hm) ?_
            refine VD.pure 11 rfl (by kernel_rfl) rfl rfl (p_sliceLE Try.underlying23 Try.sizeOf54 rfl rfl (by omega) hA' rfl rfl) ?_
            refine VD.pure 12 rfl (by kernel_rfl) rfl rfl (p_nilCheck rfl) ?_
            refine VD.pure 13 rfl (by kernel_rfl) rfl rfl (p_field (fo := 3) Try.underlying47 rfl Try.sizeOf23 rfl rfl rfl) ?_
            refine VD.turn1 14 (by kernel_rfl) ?_
            refine VDT.store (cs' := (tcl kid cur last A' (n - (n - 1)) (c - (n - 1)) 4 ep td prop last)) (v := .slice _ _ _) Try.sizeOf23 rfl rfl rfl rfl rfl rfl hm 0 0 rfl (Nat.ble_eq.mp rfl) rfl (fun w' hm' => Kept.of0 hm') ?_
            intro w hm
            refine VD.nil (by kernel_rfl) rfl ?_
            rotate_left 1
            all_goals
              have hg3 : g3 (Tb.abs ⟨kid, cur, last, A, n, c, es, 3, ep, td, prop, com⟩) = Tb.abs ⟨kid, cur, last, A', n - (n - 1), c - (n - 1), es.drop (n - 1), 4, ep, td, prop, last⟩ := by
                unfold g3
                rw [if_pos ⟨rfl, hq⟩]
                unfold Tb.abs
                dsimp only
                rw [List.length_map, hlen, List.map_drop]
              refine ⟨⟨kid, cur, last, A', n - (n - 1), c - (n - 1), es.drop (n - 1), 4, ep, td, prop, last⟩, ⟨rfl, rfl, trivial⟩, hm, ⟨hrow', by show 1 ≤ n - (n - 1); omega, by show n - (n - 1) ≤ c - (n - 1); omega, by show c - (n - 1) ≤ maxLen; omega, hSid, hSacc⟩, by rw [← hg3, on_3 rfl hq]; exact hon, by show (4 : Int) ≤ 4; omega, fun h => by dsimp only at h; omega, by show (3 : Int) ≤ 4; omega⟩
          · repeat (first | refine VC.seq ?_ | refine VC.block ?_ | refine VC.skip ?_)
            refine VC.condF rfl (Bool.not_eq_true _ |>.mp hq) ?_
            repeat (first | refine VC.seq ?_ | refine VC.block ?_ | refine VC.skip ?_)
            exact ⟨⟨kid, cur, last, A, n, c, es, 3, ep, td, prop, com⟩, ⟨rfl, rfl, trivial⟩, hm, hS, hon, h4, fun _ => hstay (fun h => absurd h.1 (by decide)) (fun h => absurd h.1 (by decide)) (fun h => hq h.2), Int.le_refl _⟩
        · repeat (first | refine VC.seq ?_ | refine VC.block ?_ | refine VC.skip ?_)
          exact ⟨⟨kid, cur, last, A, n, c, es, stage, ep, td, prop, com⟩, ⟨rfl, rfl, trivial⟩, hm, hS, hon, h4, fun _ => hstay (fun h => c1 h.1) (fun h => c2 h.1) (fun h => c3 h.1), Int.le_refl _⟩
end
end Go.Bd
