/- LeadOrders: who tells what in which order plays no part. Conditions: none. -/
import Derived.Test.Ytjnplhmhkindpaa23p
import Derived.Test.Ytjnplhmhkindpaa23o
import Derived.Test.YtjnplhmhkindpaaFrame
namespace Go.Bd
open Go.Proofs Go.ChangeShapes Go.WideShapes
set_option linter.unusedVariables false
set_option linter.unusedSimpArgs false
set_option maxRecDepth 20000

theorem pickN_c {w : World} {x n : Int} {m : Nat} (h : 1 ≤ n ∧ n ≤ 1000000000000000) (e : pickF x n = m) : Calls Try.prog 7 #[.int .i64 x, .int .i64 n] w (Ret fun v w' => v = .int .i64 m ∧ w' = w) := by
  rw [← e]
  exact pickF_c h
theorem not_lt_ep {a m : Int} (h : a ≤ m + 1) : ¬ (m + 1 < a) := by omega
theorem not_le_ep {a c : Int} (h : c + 1 ≤ a) : ¬ (a ≤ c) := by omega
theorem end_eq {s : Int} {b : Bool} (h : s = if b = true then 4 else 1) : (!(decide (s = 4) == b)) = false := by
  subst h
  cases b <;> decide
structure Ws where
  A : Option Addr
  c : Nat
  ids : List Int
  L : Blks
  T : Tb
  most : Int
structure WOk (G : Env) (w : World) (g : Nat) (L9 : Blks) (id ac : Int) (es : List (Int × List Mb)) (s : Ws) : Prop where
  mem : Mem G w (s.L :: [(g, s.T.ob)] :: L9 :: [])
  own : OwnS 3 1 s.A s.ids.length s.c (intsV s.ids) s.L
  tok : TOk G.heap s.T
  li : Li id ac es s.ids s.most s.T.abs
  clo : OnC s.T.abs
  pos : 0 < s.ids.length
  mst : 0 ≤ s.most ∧ s.most ≤ 1073741822
structure POk (G : Env) (w : World) (g : Nat) (L9 : Blks) (id ac : Int) (es : List (Int × List Mb)) (all : List Int) (most : Int) (T : Tb) : Prop where
  mem : Mem G w ([(g, T.ob)] :: L9 :: [])
  tok : TOk G.heap T
  li : Li id ac es all most T.abs
  clo : OnC T.abs
set_option maxHeartbeats 16000000 in
theorem lead_orders_c {F : Env} {w : World} {id ac cu la : Int} {A0 A1 A2 A3 : Option Addr} {n0 c0 n1 c1 n2 c2 n3 c3 : Nat} {os : List En} {xs ys zs : List Int}
    (hes : ERow F.heap A0 n0 os) (hn0 : n0 ≤ maxLen) (hsm : ∀ e ∈ os, e.n * 32 ≤ 140737488355328) (hxs : Row F.heap A1 n1 (xs.map (Value.int .i64))) (hys : Row F.heap A2 n2 (ys.map (Value.int .i64))) (hzs : Row F.heap A3 n3 (zs.map (Value.int .i64))) (hm : Mem F w []) :
    Calls Try.prog 3 #[.agg #[.int .i64 id, .int .i64 ac, .int .i64 cu, .int .i64 la, .slice A0 n0 c0], .slice A1 n1 c1, .slice A2 n2 c2, .slice A3 n3 c3] w (Ret fun v w' => v = .bool true ∧ Mem F w' []) := by
  have hxl : xs.length = n1 := by have := hxs.len; rwa [List.length_map] at this
  have hyl : ys.length = n2 := by have := hys.len; rwa [List.length_map] at this
  have hzl : zs.length = n3 := by have := hzs.len; rwa [List.length_map] at this
  refine Calls.of_vc Try.func3 rfl Try.ntmps3 rfl ?_
  repeat (first | refine VC.seq ?_ | refine VC.block ?_ | refine VC.skip ?_)
  refine VC.region ?_
  refine VR.new hm rfl rfl (n_boxG rfl) ?_
  intro b4 w hm
  refine VR.pure rfl rfl (p_assignB rfl) ?_
  refine VR.nil ?_
  obtain ⟨G0, hu0, hm, hb4⟩ := hm.freeze
  replace hb4 := hb4 _ (.head _)
  replace hes := hes.mono hu0.heap
  replace hxs := hxs.mono hu0.heap
  replace hys := hys.mono hu0.heap
  replace hzs := hzs.mono hu0.heap
  repeat (first | refine VC.seq ?_ | refine VC.block ?_ | refine VC.skip ?_)
  refine VC.region ?_
  refine VR.call rfl rfl (r_call0 Try.call5) (awake_c hm) ?_
  rintro _ w ⟨rfl, hm⟩
  refine VR.pure rfl rfl (p_not rfl) ?_
  refine VR.nil ?_
  repeat (first | refine VC.seq ?_ | refine VC.block ?_ | refine VC.skip ?_)
  refine VC.condF rfl rfl ?_
  repeat (first | refine VC.seq ?_ | refine VC.block ?_ | refine VC.skip ?_)
  refine VC.region ?_
  refine VR.pure rfl rfl (p_moveL rfl) ?_
  refine VR.pure rfl rfl (p_len Try.underlying26 rfl) ?_
  refine VR.pure rfl rfl (p_gt rfl rfl) ?_
  refine VR.pure rfl rfl (p_moveB rfl) ?_
  refine VR.splitD 27 rfl (fun q3 => ?_) (fun q3 => ?_)
  refine VR.pass rfl rfl ?_
  refine VR.pass rfl rfl ?_
  refine VR.pass rfl rfl ?_
  refine VR.pass rfl rfl ?_
  refine VR.pass rfl rfl ?_
  refine VR.pure rfl rfl (p_pickT rfl rfl) ?_
  refine VR.pure rfl rfl (p_moveB rfl) ?_
  refine VR.pass rfl rfl ?_
  refine VR.pass rfl rfl ?_
  refine VR.pass rfl rfl ?_
  refine VR.pure rfl rfl (p_pickT rfl rfl) ?_
  refine VR.pure rfl rfl (p_moveB rfl) ?_
  refine VR.pass rfl rfl ?_
  refine VR.pass rfl rfl ?_
  refine VR.pass rfl rfl ?_
  refine VR.pass rfl rfl ?_
  refine VR.pure rfl rfl (p_pickT rfl rfl) ?_
  refine VR.nil ?_
  rotate_left 1
  refine VR.pureG rfl rfl (p_moveL rfl) ?_
  refine VR.pureG rfl rfl (p_len Try.underlying26 rfl) ?_
  refine VR.pureG rfl rfl (p_moveL rfl) ?_
  refine VR.pureG rfl rfl (p_len Try.underlying26 rfl) ?_
  refine VR.pureG rfl rfl (p_lt rfl rfl) ?_
  refine VR.pure rfl rfl (p_pickF rfl rfl) ?_
  refine VR.pure rfl rfl (p_moveB rfl) ?_
  refine VR.splitD 34 rfl (fun q10 => ?_) (fun q10 => ?_)
  refine VR.pass rfl rfl ?_
  refine VR.pass rfl rfl ?_
  refine VR.pass rfl rfl ?_
  refine VR.pure rfl rfl (p_pickT rfl rfl) ?_
  refine VR.pure rfl rfl (p_moveB rfl) ?_
  refine VR.pass rfl rfl ?_
  refine VR.pass rfl rfl ?_
  refine VR.pass rfl rfl ?_
  refine VR.pass rfl rfl ?_
  refine VR.pure rfl rfl (p_pickT rfl rfl) ?_
  refine VR.nil ?_
  rotate_left 1
  refine VR.pureG rfl rfl (p_moveL rfl) ?_
  refine VR.pureG rfl rfl (p_len Try.underlying26 rfl) ?_
  refine VR.pureG rfl rfl (p_gt rfl rfl) ?_
  refine VR.pure rfl rfl (p_pickF rfl rfl) ?_
  refine VR.pure rfl rfl (p_moveB rfl) ?_
  refine VR.splitD 39 rfl (fun q15 => ?_) (fun q15 => ?_)
  refine VR.pass rfl rfl ?_
  refine VR.pass rfl rfl ?_
  refine VR.pass rfl rfl ?_
  refine VR.pass rfl rfl ?_
  refine VR.pure rfl rfl (p_pickT rfl rfl) ?_
  refine VR.nil ?_
  rotate_left 1
  refine VR.pureG rfl rfl (p_field (fo := 4) Try.underlying25 rfl Try.sizeOf23 rfl rfl rfl) ?_
  refine VR.valG rfl rfl (r_load (v := .slice _ _ _) Try.isAgg23 rfl (hm.fix _ _ hb4) rfl) ?_
  refine VR.pureG rfl rfl (p_len Try.underlying23 rfl) ?_
  refine VR.pureG rfl rfl (p_gt rfl rfl) ?_
  refine VR.pure rfl rfl (p_pickF rfl rfl) ?_
  refine VR.nil ?_
  rotate_left 1
  · repeat (first | refine VC.seq ?_ | refine VC.block ?_ | refine VC.skip ?_)
    refine VC.condT rfl rfl ?_
    repeat (first | refine VC.seq ?_ | refine VC.block ?_ | refine VC.skip ?_)
    refine VC.region ?_
    refine VR.pure rfl rfl (p_assignB rfl) ?_
    refine VR.nil ?_
    repeat (first | refine VC.seq ?_ | refine VC.block ?_ | refine VC.skip ?_)
    refine VC.ret ⟨_, ResOf.r1 (v := .bool _) rfl rfl, ?_⟩
    exact ⟨rfl, hm.shrink hu0⟩
  · repeat (first | refine VC.seq ?_ | refine VC.block ?_ | refine VC.skip ?_)
    refine VC.condT rfl rfl ?_
    repeat (first | refine VC.seq ?_ | refine VC.block ?_ | refine VC.skip ?_)
    refine VC.region ?_
    refine VR.pure rfl rfl (p_assignB rfl) ?_
    refine VR.nil ?_
    repeat (first | refine VC.seq ?_ | refine VC.block ?_ | refine VC.skip ?_)
    refine VC.ret ⟨_, ResOf.r1 (v := .bool _) rfl rfl, ?_⟩
    exact ⟨rfl, hm.shrink hu0⟩
  · repeat (first | refine VC.seq ?_ | refine VC.block ?_ | refine VC.skip ?_)
    refine VC.condT rfl rfl ?_
    repeat (first | refine VC.seq ?_ | refine VC.block ?_ | refine VC.skip ?_)
    refine VC.region ?_
    refine VR.pure rfl rfl (p_assignB rfl) ?_
    refine VR.nil ?_
    repeat (first | refine VC.seq ?_ | refine VC.block ?_ | refine VC.skip ?_)
    refine VC.ret ⟨_, ResOf.r1 (v := .bool _) rfl rfl, ?_⟩
    exact ⟨rfl, hm.shrink hu0⟩
  repeat (first | refine VC.seq ?_ | refine VC.block ?_ | refine VC.skip ?_)
  refine VC.condD rfl (fun q19 => ?_) (fun q19 => ?_)
  · repeat (first | refine VC.seq ?_ | refine VC.block ?_ | refine VC.skip ?_)
    refine VC.region ?_
    refine VR.pure rfl rfl (p_assignB rfl) ?_
    refine VR.nil ?_
    repeat (first | refine VC.seq ?_ | refine VC.block ?_ | refine VC.skip ?_)
    refine VC.ret ⟨_, ResOf.r1 (v := .bool _) rfl rfl, ?_⟩
    exact ⟨rfl, hm.shrink hu0⟩
  have hk : n1 ≤ 10 ∧ n1 ≤ n2 ∧ n3 ≤ 50 ∧ n0 ≤ 2 := by omega
  clear q3 q10 q15 q19
  repeat (first | refine VC.seq ?_ | refine VC.block ?_ | refine VC.skip ?_)
  refine VC.region ?_
  refine VR.pure rfl rfl (p_assignL rfl) ?_
  refine VR.nil ?_
  repeat (first | refine VC.seq ?_ | refine VC.block ?_ | refine VC.skip ?_)
  refine VC.region ?_
  refine VR.pure rfl rfl (p_assignI rfl) ?_
  refine VR.nil ?_
  obtain ⟨sE, hsE⟩ : ∃ s, s = gath id (tells xs ys) ⟨onA (newA id ac cu la (os.map En.abs) (tdN id.toNat ac)), [id], ac⟩ := ⟨_, rfl⟩
  obtain ⟨st, hst⟩ : ∃ st : Int, st = if allA (os.map En.abs) sE.all = true then 4 else 1 := ⟨_, rfl⟩
  repeat (first | refine VC.seq ?_ | refine VC.block ?_ | refine VC.skip ?_)
  refine VC.loop (σ := Nat × Option Addr × Nat × Blks) (fun s => [(1, .slice A1 n1 c1), (2, .slice A2 n2 c2), (3, .slice A3 n3 c3), (4, .pointer (some ⟨b4, 0, none⟩)), (9, .slice s.2.1 s.1 s.2.2.1), (10, .int .i64 s.1)])
    (fun s w => s.1 ≤ 2 ∧ ∃ G, G0.under G ∧ Mem G w (s.2.2.2 :: []) ∧ OwnS 32 1 s.2.1 s.1 s.2.2.1 (List.replicate s.1 (.int .u8 st)) s.2.2.2) (fun s => 2 - s.1)
    (0, none, 0, []) ⟨rfl, rfl, rfl, rfl, rfl, rfl, trivial⟩ ⟨by show 0 ≤ 2; omega, G0, Env.under_refl G0, hm.nil_, OwnS.nil _ _⟩ ?_
  clear hm
  rintro ⟨way, A9, c9, L9⟩ AA w ⟨hway, G, hu, hm, ho9⟩
  dsimp only at hway hm ho9 ⊢
  repeat (first | refine VC.seq ?_ | refine VC.block ?_ | refine VC.skip ?_)
  refine VC.region ?_
  refine VR.pure rfl rfl (p_moveI rfl) ?_
  refine VR.pure rfl rfl (p_lt rfl rfl) ?_
  refine VR.nil ?_
  repeat (first | refine VC.seq ?_ | refine VC.block ?_ | refine VC.skip ?_)
  refine VC.condD rfl (fun hw => ?_) (fun hw => ?_)
  · have hw2 : way < 2 := by omega
    have hbG := hu.heap _ _ hb4
    by_cases hok : NewOk id ac cu la os
    rotate_left
    · repeat (first | refine VC.seq ?_ | refine VC.block ?_ | refine VC.skip ?_)
      repeat (first | refine VC.seq ?_ | refine VC.block ?_ | refine VC.skip ?_)
      refine VC.region ?_
      refine VR.pure rfl rfl (p_field (fo := 0) Try.underlying25 rfl Try.sizeOf3 rfl rfl rfl) ?_
      refine VR.val rfl rfl (r_load (v := .int _ _) Try.isAgg3 rfl (hm.fix _ _ hbG) rfl) ?_
      refine VR.pure rfl rfl (p_field (fo := 1) Try.underlying25 rfl Try.sizeOf3 rfl rfl rfl) ?_
      refine VR.val rfl rfl (r_load (v := .int _ _) Try.isAgg3 rfl (hm.fix _ _ hbG) rfl) ?_
      refine VR.pure rfl rfl (p_field (fo := 2) Try.underlying25 rfl Try.sizeOf3 rfl rfl rfl) ?_
      refine VR.val rfl rfl (r_load (v := .int _ _) Try.isAgg3 rfl (hm.fix _ _ hbG) rfl) ?_
      refine VR.pure rfl rfl (p_field (fo := 3) Try.underlying25 rfl Try.sizeOf22 rfl rfl rfl) ?_
      refine VR.val rfl rfl (r_load (v := .int _ _) Try.isAgg22 rfl (hm.fix _ _ hbG) rfl) ?_
      refine VR.pure rfl rfl (p_field (fo := 4) Try.underlying25 rfl Try.sizeOf23 rfl rfl rfl) ?_
      refine VR.val rfl rfl (r_load (v := .slice _ _ _) Try.isAgg23 rfl (hm.fix _ _ hbG) rfl) ?_
      refine VR.call rfl rfl (r_call5 Try.call6 rfl rfl rfl rfl rfl) (new_c (id := id) (acc := ac) (cur := cu) (last := la) hm (hes.mono hu.heap) hn0 hsm) ?_
      rintro v59 w hnew
      obtain ⟨rfl, hm⟩ := (hnew.resolve_left (fun h => hok h.1)).2
      refine VR.pure rfl rfl (p_assignP rfl) ?_
      refine VR.nil ?_
      repeat (first | refine VC.seq ?_ | refine VC.block ?_ | refine VC.skip ?_)
      refine VC.region ?_
      refine VR.pure rfl rfl (p_moveP rfl) ?_
      refine VR.pure rfl rfl (p_eqNilP Try.underlying29 rfl) ?_
      refine VR.nil ?_
      repeat (first | refine VC.seq ?_ | refine VC.block ?_ | refine VC.skip ?_)
      refine VC.condT rfl rfl ?_
      repeat (first | refine VC.seq ?_ | refine VC.block ?_ | refine VC.skip ?_)
      refine VC.region ?_
      refine VR.pure rfl rfl (p_assignB rfl) ?_
      refine VR.nil ?_
      repeat (first | refine VC.seq ?_ | refine VC.block ?_ | refine VC.skip ?_)
      refine VC.ret ⟨_, ResOf.r1 (v := .bool _) rfl rfl, ?_⟩
      exact ⟨rfl, (hm.none_.shrink hu).shrink hu0⟩
    repeat (first | refine VC.seq ?_ | refine VC.block ?_ | refine VC.skip ?_)
    repeat (first | refine VC.seq ?_ | refine VC.block ?_ | refine VC.skip ?_)
    refine VC.region ?_
    refine VR.pure rfl rfl (p_field (fo := 0) Try.underlying25 rfl Try.sizeOf3 rfl rfl rfl) ?_
    refine VR.val rfl rfl (r_load (v := .int _ _) Try.isAgg3 rfl (hm.fix _ _ hbG) rfl) ?_
    refine VR.pure rfl rfl (p_field (fo := 1) Try.underlying25 rfl Try.sizeOf3 rfl rfl rfl) ?_
    refine VR.val rfl rfl (r_load (v := .int _ _) Try.isAgg3 rfl (hm.fix _ _ hbG) rfl) ?_
    refine VR.pure rfl rfl (p_field (fo := 2) Try.underlying25 rfl Try.sizeOf3 rfl rfl rfl) ?_
    refine VR.val rfl rfl (r_load (v := .int _ _) Try.isAgg3 rfl (hm.fix _ _ hbG) rfl) ?_
    refine VR.pure rfl rfl (p_field (fo := 3) Try.underlying25 rfl Try.sizeOf22 rfl rfl rfl) ?_
    refine VR.val rfl rfl (r_load (v := .int _ _) Try.isAgg22 rfl (hm.fix _ _ hbG) rfl) ?_
    refine VR.pure rfl rfl (p_field (fo := 4) Try.underlying25 rfl Try.sizeOf23 rfl rfl rfl) ?_
    refine VR.val rfl rfl (r_load (v := .slice _ _ _) Try.isAgg23 rfl (hm.fix _ _ hbG) rfl) ?_
    refine VR.call rfl rfl (r_call5 Try.call6 rfl rfl rfl rfl rfl) (new_c (id := id) (acc := ac) (cur := cu) (last := la) hm (hes.mono hu.heap) hn0 hsm) ?_
    rintro v59 w hnew
    obtain ⟨g, T0, G2, rfl, hu2, hT0, hab0, hm⟩ := (hnew.resolve_right (fun h => h.1 hok)).2
    refine VR.pure rfl rfl (p_assignP rfl) ?_
    refine VR.nil ?_
    clear hnew
    repeat (first | refine VC.seq ?_ | refine VC.block ?_ | refine VC.skip ?_)
    refine VC.region ?_
    refine VR.pure rfl rfl (p_moveP rfl) ?_
    refine VR.pure rfl rfl (p_eqNilP Try.underlying29 rfl) ?_
    refine VR.nil ?_
    repeat (first | refine VC.seq ?_ | refine VC.block ?_ | refine VC.skip ?_)
    refine VC.condF rfl rfl ?_
    have hb2 := hu2.heap _ _ hbG
    have hac : 0 ≤ ac ∧ ac ≤ 1073741822 := by have h1 := hok.ccur; have h2 := hok.cacc; omega
    have hu02 := hu.trans hu2
    repeat (first | refine VC.seq ?_ | refine VC.block ?_ | refine VC.skip ?_)
    refine VC.region ?_
    refine VR.pure rfl rfl (p_field (fo := 0) Try.underlying25 rfl Try.sizeOf3 rfl rfl rfl) ?_
    refine VR.val rfl rfl (r_load (v := .int _ _) Try.isAgg3 rfl (hm.fix _ _ hb2) rfl) ?_
    refine VR.new hm rfl rfl (n_buildSlice1 (vs := [.int _ _]) Try.underlying26 inf3 rfl rfl rfl rfl rfl rfl rfl) ?_
    intro b12 w hm
    refine VR.pure rfl rfl (p_assignL rfl) ?_
    refine VR.nil ?_
    have ho0 : OwnS 3 1 (some ⟨b12, 0, none⟩) 1 1 (intsV [id]) [(b12, .cells #[.int .i64 id] 3 (0, 0))] := OwnS.whole (cur := #[.int .i64 id]) (by unfold maxLen; omega) rfl
    repeat (first | refine VC.seq ?_ | refine VC.block ?_ | refine VC.skip ?_)
    refine VC.region ?_
    refine VR.pure rfl rfl (p_field (fo := 1) Try.underlying25 rfl Try.sizeOf3 rfl rfl rfl) ?_
    refine VR.val rfl rfl (r_load (v := .int _ _) Try.isAgg3 rfl (hm.fix _ _ hb2) rfl) ?_
    refine VR.pure rfl rfl (p_assignI rfl) ?_
    refine VR.nil ?_
    repeat (first | refine VC.seq ?_ | refine VC.block ?_ | refine VC.skip ?_)
    refine VC.region ?_
    refine VR.pure rfl rfl (p_assignI rfl) ?_
    refine VR.nil ?_
    refine VC.meet (σ := Ws) (fun s => [(1, .slice A1 n1 c1), (2, .slice A2 n2 c2), (3, .slice A3 n3 c3), (4, .pointer (some ⟨b4, 0, none⟩)), (9, .slice A9 way c9), (10, .int .i64 way), (11, .pointer (some ⟨g, 0, none⟩)), (12, .slice s.A s.ids.length s.c), (13, .int .i64 s.most)])
      (fun s w => WOk G2 w g L9 id ac (os.map En.abs) s ∧ s.ids.length ≤ 11 ∧ ⟨s.T.abs, s.ids, s.most⟩ = sE) ?_ ?_
    · repeat (first | refine VC.seq ?_ | refine VC.block ?_ | refine VC.skip ?_)
      refine VC.loop (σ := Nat × Ws) (fun s => [(1, .slice A1 n1 c1), (2, .slice A2 n2 c2), (3, .slice A3 n3 c3), (4, .pointer (some ⟨b4, 0, none⟩)), (9, .slice A9 way c9), (10, .int .i64 way), (11, .pointer (some ⟨g, 0, none⟩)), (12, .slice s.2.A s.2.ids.length s.2.c), (13, .int .i64 s.2.most), (14, .int .i64 s.1)])
        (fun s w => s.1 ≤ n1 ∧ WOk G2 w g L9 id ac (os.map En.abs) s.2 ∧ s.2.ids.length ≤ s.1 + 1 ∧ gath id ((tells xs ys).drop s.1) ⟨s.2.T.abs, s.2.ids, s.2.most⟩ = sE) (fun s => n1 - s.1)
        (0, ⟨some ⟨b12, 0, none⟩, 1, [id], _, T0, ac⟩) ⟨rfl, rfl, rfl, rfl, rfl, rfl, rfl, rfl, rfl, rfl, trivial⟩ ⟨by show 0 ≤ n1; omega, ⟨hm, ho0, hT0, by rw [hab0]; exact Li.start hok, by rw [hab0]; exact on_C _, by show 0 < 1; omega, hac⟩, by show 1 ≤ 0 + 1; omega, by rw [hsE, hab0]; rfl⟩ ?_
      clear hm ho0 hT0
      rintro ⟨i, A, c, all, L, T, most⟩ A5 w ⟨hi, ⟨hm, ho, hT, hLi, hC, hpos, hms⟩, hal, hg⟩
      dsimp only at hi hm ho hT hLi hC hpos hms hal hg ⊢
      repeat (first | refine VC.seq ?_ | refine VC.block ?_ | refine VC.skip ?_)
      refine VC.region ?_
      refine VR.pure rfl rfl (p_moveI rfl) ?_
      refine VR.pure rfl rfl (p_moveL rfl) ?_
      refine VR.pure rfl rfl (p_len Try.underlying26 rfl) ?_
      refine VR.pure rfl rfl (p_lt rfl rfl) ?_
      refine VR.nil ?_
      repeat (first | refine VC.seq ?_ | refine VC.block ?_ | refine VC.skip ?_)
      refine VC.condD rfl (fun hlt => ?_) (fun hlt => ?_)
      · have hi' : i < n1 := by omega
        obtain ⟨x, hx, _⟩ := get_of (xs := xs) (k := i) (by omega)
        obtain ⟨y, hy, _⟩ := get_of (xs := ys) (k := i) (by omega)
        obtain ⟨bx, ox, blx, Tx, fx, rfl, hbx, hcx⟩ := Row.get hxs (by omega)
        obtain ⟨by_, oy, bly, Ty, fy, rfl, hby, hcy⟩ := Row.get hys (by omega)
        have hcx1 := (hcx i hi').trans (ints_at hx)
        have hcy1 := (hcy i (by omega)).trans (ints_at hy)
        have hbx2 := hu02.heap _ _ hbx
        have hby2 := hu02.heap _ _ hby
        have hp7 := pickF_in (x := x) (n := 7) (by decide)
        have hp50 := pickF_in (x := y) (n := 50) (by decide)
        rw [tells_drop hx hy] at hg
        generalize hpx : pickF x 7 = px at hp7 hg
        generalize hpy : pickF y 50 = py at hp50 hg
        have hkx : Calls Try.prog 7 #[.int .i64 x, .int .i64 7] w (Ret fun v w' => v = .int .i64 px ∧ w' = w) := by rw [← hpx]; exact pickF_c (by decide)
        have hky : Calls Try.prog 7 #[.int .i64 y, .int .i64 50] w (Ret fun v w' => v = .int .i64 py ∧ w' = w) := by rw [← hpy]; exact pickF_c (by decide)
        repeat (first | refine VC.seq ?_ | refine VC.block ?_ | refine VC.skip ?_)
        repeat (first | refine VC.seq ?_ | refine VC.block ?_ | refine VC.skip ?_)
        refine VC.region ?_
        refine VR.pure rfl rfl (p_moveL rfl) ?_
        refine VR.pure rfl rfl (p_moveI rfl) ?_
        refine VR.pure rfl rfl (p_idx1 Try.underlying26 Try.sizeOf3 rfl rfl hi') ?_
        refine VR.val rfl rfl (r_load (v := .int _ _) Try.isAgg3 rfl (hm.fix _ _ hbx2) hcx1) ?_
        refine VR.call rfl rfl (r_call2 Try.call7 rfl rfl) (hkx) ?_
        rintro _ _ ⟨rfl, rfl⟩
        refine VR.pure rfl rfl (p_add64 rfl rfl (by omega)) ?_
        refine VR.pure rfl rfl (p_assignI rfl) ?_
        refine VR.nil ?_
        repeat (first | refine VC.seq ?_ | refine VC.block ?_ | refine VC.skip ?_)
        refine VC.region ?_
        refine VR.pure rfl rfl (p_moveL rfl) ?_
        refine VR.pure rfl rfl (p_moveI rfl) ?_
        refine VR.pure rfl rfl (p_idx1 Try.underlying26 Try.sizeOf3 rfl rfl (by omega : i < n2)) ?_
        refine VR.val rfl rfl (r_load (v := .int _ _) Try.isAgg3 rfl (hm.fix _ _ hby2) hcy1) ?_
        refine VR.call rfl rfl (r_call2 Try.call7 rfl rfl) (hky) ?_
        rintro _ _ ⟨rfl, rfl⟩
        refine VR.pure rfl rfl (p_assignI rfl) ?_
        refine VR.nil ?_
        repeat (first | refine VC.seq ?_ | refine VC.block ?_ | refine VC.skip ?_)
        refine VC.region ?_
        refine VR.pure rfl rfl (p_moveI rfl) ?_
        refine VR.pure rfl rfl (p_field (fo := 0) Try.underlying25 rfl Try.sizeOf3 rfl rfl rfl) ?_
        refine VR.val rfl rfl (r_load (v := .int _ _) Try.isAgg3 rfl (hm.fix _ _ hb2) rfl) ?_
        refine VR.pure rfl rfl (p_ne rfl rfl) ?_
        refine VR.nil ?_
        repeat (first | refine VC.seq ?_ | refine VC.block ?_ | refine VC.skip ?_)
        refine VC.condD rfl (fun hne => ?_) (fun hne => ?_)
        · repeat (first | refine VC.seq ?_ | refine VC.block ?_ | refine VC.skip ?_)
          refine VC.region ?_
          refine VR.pure rfl rfl (p_moveL rfl) ?_
          refine VR.pure rfl rfl (p_moveI rfl) ?_
          refine VR.new hm rfl rfl (n_buildSlice1 (vs := [.int _ _]) Try.underlying26 inf3 rfl rfl rfl rfl rfl rfl rfl) ?_
          intro b90 w hm
          replace hm := hm.swap
          refine VR.append (s := 1) (bytes := 8) Try.underlying26 inf3 rfl rfl rfl rfl rfl rfl rfl rfl rfl hm ho (Row.lit (cs := [.int .i64 (1 + px)]) (hm.at_ 1 0 rfl)) (intsV_one [1 + px]) rfl ⟨by unfold maxLen; omega, by omega⟩ ?_
          intro A2' c2' w L2 ho2 hm
          refine VR.pure rfl rfl (p_assignL rfl) ?_
          refine VR.nil ?_
          replace hm := hm.pop2.swap
          repeat (first | refine VC.seq ?_ | refine VC.block ?_ | refine VC.skip ?_)
          refine VC.region ?_
          refine VR.pure rfl rfl (p_moveP rfl) ?_
          refine VR.pure rfl rfl (p_moveI rfl) ?_
          refine VR.pure rfl rfl (p_moveI rfl) ?_
          refine VR.call rfl rfl (r_call3 Try.call8 rfl rfl rfl) (info_c (frm := 1 + px) (ac := py) hm hT hLi.inv) ?_
          rintro _ w ⟨T2, rfl, hab, hT2, hm⟩
          refine VR.nil ?_
          repeat (first | refine VC.seq ?_ | refine VC.block ?_ | refine VC.skip ?_)
          refine VC.region ?_
          refine VR.pure rfl rfl (p_moveI rfl) ?_
          refine VR.pure rfl rfl (p_moveI rfl) ?_
          refine VR.pure rfl rfl (p_max rfl rfl) ?_
          refine VR.pure rfl rfl (p_assignI rfl) ?_
          refine VR.nil ?_
          replace hm := hm.swap
          replace ho2 : OwnS 3 1 A2' (all ++ [1 + px]).length c2' (intsV (all ++ [1 + px])) L2 := by
            unfold intsV
            rw [List.map_append, List.length_append]
            exact ho2
          obtain ⟨all2, hall2⟩ : ∃ l, l = all ++ [1 + px] := ⟨_, rfl⟩
          have hlen2 : all2.length = all.length + 1 := by rw [hall2, List.length_append]; rfl
          obtain ⟨most2, hmost2⟩ : ∃ l, l = max most py := ⟨_, rfl⟩
          have hstep : gStep id ⟨T.abs, all, most⟩ (1 + px, py) = ⟨T2.abs, all2, most2⟩ := by
            rw [gStep_out hne, hab, hall2, hmost2]
          have hLi2 : Li id ac (os.map En.abs) all2 most2 T2.abs := by
            rw [hab, hall2, hmost2]
            exact hLi.info (by omega) hne hp50
          have hC2 : OnC T2.abs := by
            rw [hab]
            exact info_C hC _ _
          have hpos2 : 0 < all2.length := by omega
          have hms2 : 0 ≤ most2 ∧ most2 ≤ 1073741822 := by omega
          have hal2 : all2.length ≤ i + 1 + 1 := by omega
          rw [← hall2] at ho2
          rw [← hlen2, ← hmost2]
          repeat (first | refine VC.seq ?_ | refine VC.block ?_ | refine VC.skip ?_)
          repeat (first | refine VC.seq ?_ | refine VC.block ?_ | refine VC.skip ?_)
          refine VC.region ?_
          refine VR.pure rfl rfl (p_moveP rfl) ?_
          refine VR.call rfl rfl (r_call1 Try.call9 rfl) (stage_c (T := T2) hm.all (hm.plus_at 1 0 rfl)) ?_
          rintro _ w ⟨rfl, hm'⟩
          replace hm := hm.back0 hm'
          refine VR.pure rfl rfl (p_ge rfl rfl) ?_
          refine VR.nil ?_
          repeat (first | refine VC.seq ?_ | refine VC.block ?_ | refine VC.skip ?_)
          refine VC.condD rfl (fun h2 => ?_) (fun h2 => ?_)
          · refine VC.exit ?_
            exact ⟨⟨A2', c2', all2, L2, T2, most2⟩, ⟨rfl, rfl, rfl, rfl, rfl, rfl, rfl, rfl, rfl, trivial⟩, ⟨hm, ho2, hT2, hLi2, hC2, hpos2, hms2⟩, by show all2.length ≤ 11; omega, by rw [gath_stop (by rw [hstep]; exact h2), hstep] at hg; exact hg⟩
          · repeat (first | refine VC.seq ?_ | refine VC.block ?_ | refine VC.skip ?_)
            repeat (first | refine VC.seq ?_ | refine VC.block ?_ | refine VC.skip ?_)
            refine VC.region ?_
            refine VR.pure rfl rfl (p_moveI rfl) ?_
            refine VR.pure rfl rfl (p_add64 rfl rfl (by omega)) ?_
            refine VR.pure rfl rfl (p_assignI rfl) ?_
            refine VR.nil ?_
            exact ⟨(i + 1, ⟨A2', c2', all2, L2, T2, most2⟩), ⟨rfl, rfl, rfl, rfl, rfl, rfl, rfl, rfl, rfl, rfl, trivial⟩, ⟨by show i + 1 ≤ n1; omega, ⟨hm, ho2, hT2, hLi2, hC2, hpos2, hms2⟩, hal2, by rw [gath_go (by rw [hstep]; exact h2), hstep] at hg; exact hg⟩, by show n1 - (i + 1) < n1 - i; omega⟩
        · have hpx1 : 1 + px = id := Classical.not_not.1 hne
          obtain ⟨A2', hA2⟩ : ∃ l, l = A := ⟨_, rfl⟩
          obtain ⟨c2', hc2'⟩ : ∃ l, l = c := ⟨_, rfl⟩
          obtain ⟨all2, hall2⟩ : ∃ l, l = all := ⟨_, rfl⟩
          obtain ⟨most2, hmost2⟩ : ∃ l, l = most := ⟨_, rfl⟩
          obtain ⟨L2, hL2⟩ : ∃ l, l = L := ⟨_, rfl⟩
          obtain ⟨T2, hTT⟩ : ∃ l, l = T := ⟨_, rfl⟩
          have hstep : gStep id ⟨T.abs, all, most⟩ (1 + px, py) = ⟨T2.abs, all2, most2⟩ := by
            rw [gStep_in hpx1, hall2, hmost2, hTT]
          rw [← hTT, ← hL2] at hm
          have hT2 := hT
          have hC2 := hC
          have hpos2 := hpos
          have hms2 : 0 ≤ most2 ∧ most2 ≤ 1073741822 := by omega
          have hLi2 := hLi
          have ho2 := ho
          have hal2 : all2.length ≤ i + 1 + 1 := by rw [hall2]; omega
          rw [← hTT] at hT2 hC2
          rw [← hTT, ← hall2, ← hmost2] at hLi2
          rw [← hA2, ← hc2', ← hall2, ← hL2] at ho2
          rw [← hall2] at hpos2
          rw [← hA2, ← hc2', ← hall2, ← hmost2]
          repeat (first | refine VC.seq ?_ | refine VC.block ?_ | refine VC.skip ?_)
          repeat (first | refine VC.seq ?_ | refine VC.block ?_ | refine VC.skip ?_)
          refine VC.region ?_
          refine VR.pure rfl rfl (p_moveP rfl) ?_
          refine VR.call rfl rfl (r_call1 Try.call9 rfl) (stage_c (T := T2) hm.all (hm.plus_at 1 0 rfl)) ?_
          rintro _ w ⟨rfl, hm'⟩
          replace hm := hm.back0 hm'
          refine VR.pure rfl rfl (p_ge rfl rfl) ?_
          refine VR.nil ?_
          repeat (first | refine VC.seq ?_ | refine VC.block ?_ | refine VC.skip ?_)
          refine VC.condD rfl (fun h2 => ?_) (fun h2 => ?_)
          · refine VC.exit ?_
            exact ⟨⟨A2', c2', all2, L2, T2, most2⟩, ⟨rfl, rfl, rfl, rfl, rfl, rfl, rfl, rfl, rfl, trivial⟩, ⟨hm, ho2, hT2, hLi2, hC2, hpos2, hms2⟩, by show all2.length ≤ 11; omega, by rw [gath_stop (by rw [hstep]; exact h2), hstep] at hg; exact hg⟩
          · repeat (first | refine VC.seq ?_ | refine VC.block ?_ | refine VC.skip ?_)
            repeat (first | refine VC.seq ?_ | refine VC.block ?_ | refine VC.skip ?_)
            refine VC.region ?_
            refine VR.pure rfl rfl (p_moveI rfl) ?_
            refine VR.pure rfl rfl (p_add64 rfl rfl (by omega)) ?_
            refine VR.pure rfl rfl (p_assignI rfl) ?_
            refine VR.nil ?_
            exact ⟨(i + 1, ⟨A2', c2', all2, L2, T2, most2⟩), ⟨rfl, rfl, rfl, rfl, rfl, rfl, rfl, rfl, rfl, rfl, trivial⟩, ⟨by show i + 1 ≤ n1; omega, ⟨hm, ho2, hT2, hLi2, hC2, hpos2, hms2⟩, hal2, by rw [gath_go (by rw [hstep]; exact h2), hstep] at hg; exact hg⟩, by show n1 - (i + 1) < n1 - i; omega⟩
      · repeat (first | refine VC.seq ?_ | refine VC.block ?_ | refine VC.skip ?_)
        refine VC.exit ?_
        obtain rfl : i = n1 := by omega
        rw [tells_end (by omega)] at hg
        exact ⟨⟨A, c, all, L, T, most⟩, ⟨rfl, rfl, rfl, rfl, rfl, rfl, rfl, rfl, rfl, trivial⟩, ⟨hm, ho, hT, hLi, hC, hpos, hms⟩, by show all.length ≤ 11; omega, hg⟩
    clear hm ho0 hT0
    rintro ⟨A, c, all, L, T, most⟩ A5 w ⟨⟨hm, ho, hT, hLi, hC, hpos, hms⟩, hal, hg⟩
    dsimp only at hm ho hT hLi hC hpos hms hal hg ⊢
    have hep := hLi.ep
    have hepl := hLi.epl
    have hepr := hLi.inv.ep
    by_cases h2 : 2 ≤ T.stage
    · repeat (first | refine VC.seq ?_ | refine VC.block ?_ | refine VC.skip ?_)
      refine VC.loud (Kept G2 []) [1, 5, 11] rfl (by kernel_rfl) (Kept.of0 hm.drew) ?_
      replace hm := hm.drew
      refine VL.pure rfl rfl rfl (p_moveP rfl) ?_
      refine VL.call rfl rfl rfl (r_call1 Try.call9 rfl) (stage_c (T := T) hm.all (hm.plus_at 1 0 rfl)) ?_
      rintro _ w ⟨rfl, hm'⟩
      replace hm := hm.back0 hm'
      refine ⟨Kept.of0 hm, ?_⟩
      refine VL.pure rfl rfl rfl (p_ge rfl rfl) ?_
      refine VL.pure rfl rfl rfl (p_moveB rfl) ?_
      refine VL.knownT 105 rfl (decide_eq_true h2) ?_
      refine VL.pureG rfl rfl rfl (p_moveP rfl) ?_
      refine VL.callG rfl rfl rfl (r_call1 Try.call10 rfl) (epochT_c (T := T) hm.all (hm.plus_at 1 0 rfl)) ?_
      rintro _ w ⟨rfl, hm'⟩
      replace hm := hm.back0 hm'
      refine ⟨Kept.of0 hm, ?_⟩
      refine VL.pureG rfl rfl rfl (p_moveI rfl) ?_
      refine VL.pureG rfl rfl rfl (p_add64 rfl rfl (by omega)) ?_
      refine VL.pureG rfl rfl rfl (p_gt rfl rfl) ?_
      refine VL.pureG rfl rfl rfl (p_moveB rfl) ?_
      refine VL.knownF 111 rfl (decide_eq_false (not_lt_ep hep)) ?_
      refine VL.pureG rfl rfl rfl (p_moveP rfl) ?_
      refine VL.callG rfl rfl rfl (r_call1 Try.call10 rfl) (epochT_c (T := T) hm.all (hm.plus_at 1 0 rfl)) ?_
      rintro _ w ⟨rfl, hm'⟩
      replace hm := hm.back0 hm'
      refine ⟨Kept.of0 hm, ?_⟩
      refine VL.pureG rfl rfl rfl (p_field (fo := 1) Try.underlying25 rfl Try.sizeOf3 rfl rfl rfl) ?_
      refine VL.readG rfl rfl rfl (fun w' hw' => r_load (v := .int _ _) Try.isAgg3 rfl (hw'.fix _ _ hb2) rfl) ?_
      refine VL.pureG rfl rfl rfl (p_le rfl rfl) ?_
      refine VL.pureG rfl rfl rfl (p_pickF rfl rfl) ?_
      refine VL.pure rfl rfl rfl (p_pickT rfl rfl) ?_
      refine VL.nil ?_
      repeat (first | refine VC.seq ?_ | refine VC.block ?_ | refine VC.skip ?_)
      refine VC.condF rfl (decide_eq_false (not_le_ep (hepl h2))) ?_
      obtain ⟨G3, hu3, hm, hL⟩ := hm.freeze
      have hall := ho.row1 hL
      have hu03 := hu02.trans hu3
      have hb3 := hu03.heap _ _ hb4
      obtain ⟨ba, oa, bla, Ta2, fa, rfl, hba, hca⟩ := Row.get hall hpos
      replace hT := hT.mono hu3.heap
      have hes3 := hes.mono hu03.heap
      have hsE3 : sE.all = all := by rw [← hg]
      rw [hsE3] at hst
      clear ho hL hep hepl hepr hg hsE3
      generalize hln : all.length = n at hal hpos hca hall
      have hzs3 := hzs.mono hu03.heap
      try rw [hln]
      repeat (first | refine VC.seq ?_ | refine VC.block ?_ | refine VC.skip ?_)
      refine VC.region ?_
      refine VR.pure rfl rfl (p_assignI rfl) ?_
      refine VR.nil ?_
      repeat (first | refine VC.seq ?_ | refine VC.block ?_ | refine VC.skip ?_)
      refine VC.loop (σ := Nat × Tb) (fun s => [(1, .slice A1 n1 c1), (2, .slice A2 n2 c2), (3, .slice A3 n3 c3), (4, .pointer (some ⟨b4, 0, none⟩)), (9, .slice A9 way c9), (10, .int .i64 way), (11, .pointer (some ⟨g, 0, none⟩)), (12, .slice (some ⟨ba, oa, none⟩) n c), (17, .int .i64 s.1)])
        (fun s w => s.1 ≤ 2 ∧ POk G3 w g L9 id ac (os.map En.abs) all most s.2 ∧ (0 < s.1 → Pst all n3 (n3 + n) s.2.abs)) (fun s => 2 - s.1) (0, T) ⟨rfl, rfl, rfl, rfl, rfl, rfl, rfl, rfl, rfl, trivial⟩ ⟨by show 0 ≤ 2; omega, ⟨hm, hT, hLi, hC⟩, fun h => absurd h (by show ¬ 0 < 0; omega)⟩ ?_
      clear hm hT hLi hC
      rintro ⟨k, T⟩ A6 w ⟨hk2, ⟨hm, hT, hLi, hC⟩, hP⟩
      dsimp only at hk2 hm hT hLi hC hP ⊢
      repeat (first | refine VC.seq ?_ | refine VC.block ?_ | refine VC.skip ?_)
      refine VC.region ?_
      refine VR.pure rfl rfl (p_moveI rfl) ?_
      refine VR.pure rfl rfl (p_lt rfl rfl) ?_
      refine VR.nil ?_
      repeat (first | refine VC.seq ?_ | refine VC.block ?_ | refine VC.skip ?_)
      refine VC.condD rfl (fun hk3 => ?_) (fun hk3 => ?_)
      · repeat (first | refine VC.seq ?_ | refine VC.block ?_ | refine VC.skip ?_)
        repeat (first | refine VC.seq ?_ | refine VC.block ?_ | refine VC.skip ?_)
        refine VC.region ?_
        refine VR.pure rfl rfl (p_assignI rfl) ?_
        refine VR.nil ?_
        repeat (first | refine VC.seq ?_ | refine VC.block ?_ | refine VC.skip ?_)
        refine VC.loop (σ := Nat × Tb) (fun s => [(1, .slice A1 n1 c1), (2, .slice A2 n2 c2), (3, .slice A3 n3 c3), (4, .pointer (some ⟨b4, 0, none⟩)), (9, .slice A9 way c9), (10, .int .i64 way), (11, .pointer (some ⟨g, 0, none⟩)), (12, .slice (some ⟨ba, oa, none⟩) n c), (17, .int .i64 k), (18, .int .i64 s.1)])
          (fun s w => s.1 ≤ n3 + n ∧ POk G3 w g L9 id ac (os.map En.abs) all most s.2 ∧ Pst all n3 s.1 s.2.abs) (fun s => n3 + n - s.1) (0, T) ⟨rfl, rfl, rfl, rfl, rfl, rfl, rfl, rfl, rfl, rfl, trivial⟩ ⟨by show 0 ≤ _; omega, ⟨hm, hT, hLi, hC⟩, Pst.zero _ _ _⟩ ?_
        clear hm hT hLi hC hP
        rintro ⟨i, T⟩ A7 w ⟨hi, ⟨hm, hT, hLi, hC⟩, hP⟩
        dsimp only at hi hm hT hLi hC hP ⊢
        repeat (first | refine VC.seq ?_ | refine VC.block ?_ | refine VC.skip ?_)
        refine VC.region ?_
        refine VR.pure rfl rfl (p_moveI rfl) ?_
        refine VR.pure rfl rfl (p_moveL rfl) ?_
        refine VR.pure rfl rfl (p_len Try.underlying26 rfl) ?_
        refine VR.pure rfl rfl (p_moveL rfl) ?_
        refine VR.pure rfl rfl (p_len Try.underlying26 rfl) ?_
        refine VR.pure rfl rfl (p_add64 rfl rfl (by omega)) ?_
        refine VR.pure rfl rfl (p_lt rfl rfl) ?_
        refine VR.nil ?_
        repeat (first | refine VC.seq ?_ | refine VC.block ?_ | refine VC.skip ?_)
        refine VC.condD rfl (fun hi2 => ?_) (fun hi2 => ?_)
        · obtain ⟨q, hq⟩ : ∃ q : Nat, q = i % n := ⟨_, rfl⟩
          have hqn : q < n := by rw [hq]; exact Nat.mod_lt i hpos
          obtain ⟨z, hz, hzm⟩ := get_of (xs := all) (k := q) (by omega)
          have hcz := (hca q hqn).trans (ints_at hz)
          have hcur := hLi.cur
          have hlast := hLi.inv.last
          have hno : ¬ (T.cur < 0 ∨ (0 : Int) = T.cur ∧ T.last < 0) := fun h => h.elim (fun h => by have : 0 ≤ T.cur := hcur; omega) fun h => by have : 0 ≤ T.last := hlast.1; omega
          have heq : n3 ≤ i → all[i % all.length]? = some z := fun _ => by rw [hln, ← hq]; exact hz
          repeat (first | refine VC.seq ?_ | refine VC.block ?_ | refine VC.skip ?_)
          repeat (first | refine VC.seq ?_ | refine VC.block ?_ | refine VC.skip ?_)
          refine VC.region ?_
          refine VR.pure rfl rfl (p_moveL rfl) ?_
          refine VR.pure rfl rfl (p_moveI rfl) ?_
          refine VR.pure rfl rfl (p_moveL rfl) ?_
          refine VR.pure rfl rfl (p_len Try.underlying26 rfl) ?_
          refine VR.pure rfl rfl (p_rem64E (r := (q : Int)) rfl rfl (by omega) (by omega) (by rw [hq]; rfl)) ?_
          refine VR.pure rfl rfl (p_idx1 Try.underlying26 Try.sizeOf3 rfl rfl hqn) ?_
          refine VR.val rfl rfl (r_load (v := .int _ _) Try.isAgg3 rfl (hm.fix _ _ hba) hcz) ?_
          refine VR.pure rfl rfl (p_assignI rfl) ?_
          refine VR.nil ?_
          by_cases hw1 : way = 1
          · repeat (first | refine VC.seq ?_ | refine VC.block ?_ | refine VC.skip ?_)
            refine VC.region ?_
            refine VR.pure rfl rfl (p_moveI rfl) ?_
            refine VR.pure rfl rfl (p_eq rfl rfl) ?_
            refine VR.pure rfl rfl (p_moveB rfl) ?_
            refine VR.knownT 141 rfl (decide_eq_true (by omega)) ?_
            refine VR.pureG rfl rfl (p_moveI rfl) ?_
            refine VR.pureG rfl rfl (p_moveL rfl) ?_
            refine VR.pureG rfl rfl (p_len Try.underlying26 rfl) ?_
            refine VR.pureG rfl rfl (p_lt rfl rfl) ?_
            refine VR.pure rfl rfl (p_pickT rfl rfl) ?_
            refine VR.nil ?_
            repeat (first | refine VC.seq ?_ | refine VC.block ?_ | refine VC.skip ?_)
            refine VC.condD rfl (fun hi3 => ?_) (fun hi3 => ?_)
            · have hi4 : i < n3 := by omega
              obtain ⟨o, ho, _⟩ := get_of (xs := zs) (k := i) (by omega)
              obtain ⟨bo, oo, blo, To, fo, rfl, hbo, hco⟩ := Row.get hzs3 (by omega)
              have hco1 := (hco i hi4).trans (ints_at ho)
              have hpo := pickF_in (x := o) (n := (n : Int)) (by omega)
              obtain ⟨m, hpm, hmn⟩ : ∃ m : Nat, pickF o n = m ∧ m < n := ⟨(pickF o n).toNat, by omega, by omega⟩
              obtain ⟨z2, hz2, hz2m⟩ := get_of (xs := all) (k := m) (by omega)
              have hcz2 := (hca m hmn).trans (ints_at hz2)
              repeat (first | refine VC.seq ?_ | refine VC.block ?_ | refine VC.skip ?_)
              repeat (first | refine VC.seq ?_ | refine VC.block ?_ | refine VC.skip ?_)
              refine VC.region ?_
              refine VR.pure rfl rfl (p_moveL rfl) ?_
              refine VR.pure rfl rfl (p_moveL rfl) ?_
              refine VR.pure rfl rfl (p_moveI rfl) ?_
              refine VR.pure rfl rfl (p_idx1 Try.underlying26 Try.sizeOf3 rfl rfl hi4) ?_
              refine VR.val rfl rfl (r_load (v := .int _ _) Try.isAgg3 rfl (hm.fix _ _ hbo) hco1) ?_
              refine VR.pure rfl rfl (p_moveL rfl) ?_
              refine VR.pure rfl rfl (p_len Try.underlying26 rfl) ?_
              refine VR.call rfl rfl (r_call2 Try.call7 rfl rfl) (pickN_c (by omega) hpm) ?_
              rintro _ _ ⟨rfl, rfl⟩
              refine VR.pure rfl rfl (p_idx1 Try.underlying26 Try.sizeOf3 rfl rfl hmn) ?_
              refine VR.val rfl rfl (r_load (v := .int _ _) Try.isAgg3 rfl (hm.fix _ _ hba) hcz2) ?_
              refine VR.pure rfl rfl (p_assignI rfl) ?_
              refine VR.nil ?_
              have hno2 : n3 ≤ i → all[i % all.length]? = some z2 := fun h => absurd hi4 (Nat.not_lt.2 h)
              repeat (first | refine VC.seq ?_ | refine VC.block ?_ | refine VC.skip ?_)
              repeat (first | refine VC.seq ?_ | refine VC.block ?_ | refine VC.skip ?_)
              refine VC.region ?_
              refine VR.pure rfl rfl (p_moveP rfl) ?_
              refine VR.pure rfl rfl (p_moveI rfl) ?_
              refine VR.call rfl rfl (r_call5 Try.call11 rfl rfl rfl rfl rfl) (prom_c (T := T) hm hT hLi.inv hno) ?_
              rintro _ w ⟨T', rfl, hab', hT', hm⟩
              refine VR.nil ?_
              repeat (first | refine VC.seq ?_ | refine VC.block ?_ | refine VC.skip ?_)
              repeat (first | refine VC.seq ?_ | refine VC.block ?_ | refine VC.skip ?_)
              refine VC.region ?_
              refine VR.pure rfl rfl (p_moveI rfl) ?_
              refine VR.pure rfl rfl (p_add64 rfl rfl (by omega)) ?_
              refine VR.pure rfl rfl (p_assignI rfl) ?_
              refine VR.nil ?_
              exact ⟨(i + 1, T'), ⟨rfl, rfl, rfl, rfl, rfl, rfl, rfl, rfl, rfl, rfl, trivial⟩, ⟨by show i + 1 ≤ n3 + n; omega, ⟨hm, hT', by rw [hab']; exact hLi.prom _, by rw [hab']; exact prom_C hC _⟩, by rw [hab']; exact hP.step (hLi.allE _ hz2m).1 hno2⟩, by show n3 + n - (i + 1) < n3 + n - i; omega⟩
            · repeat (first | refine VC.seq ?_ | refine VC.block ?_ | refine VC.skip ?_)
              repeat (first | refine VC.seq ?_ | refine VC.block ?_ | refine VC.skip ?_)
              refine VC.region ?_
              refine VR.pure rfl rfl (p_moveP rfl) ?_
              refine VR.pure rfl rfl (p_moveI rfl) ?_
              refine VR.call rfl rfl (r_call5 Try.call11 rfl rfl rfl rfl rfl) (prom_c (T := T) hm hT hLi.inv hno) ?_
              rintro _ w ⟨T', rfl, hab', hT', hm⟩
              refine VR.nil ?_
              repeat (first | refine VC.seq ?_ | refine VC.block ?_ | refine VC.skip ?_)
              repeat (first | refine VC.seq ?_ | refine VC.block ?_ | refine VC.skip ?_)
              refine VC.region ?_
              refine VR.pure rfl rfl (p_moveI rfl) ?_
              refine VR.pure rfl rfl (p_add64 rfl rfl (by omega)) ?_
              refine VR.pure rfl rfl (p_assignI rfl) ?_
              refine VR.nil ?_
              exact ⟨(i + 1, T'), ⟨rfl, rfl, rfl, rfl, rfl, rfl, rfl, rfl, rfl, rfl, trivial⟩, ⟨by show i + 1 ≤ n3 + n; omega, ⟨hm, hT', by rw [hab']; exact hLi.prom _, by rw [hab']; exact prom_C hC _⟩, by rw [hab']; exact hP.step (hLi.allE _ hzm).1 heq⟩, by show n3 + n - (i + 1) < n3 + n - i; omega⟩
          · repeat (first | refine VC.seq ?_ | refine VC.block ?_ | refine VC.skip ?_)
            refine VC.region ?_
            refine VR.pure rfl rfl (p_moveI rfl) ?_
            refine VR.pure rfl rfl (p_eq rfl rfl) ?_
            refine VR.pure rfl rfl (p_moveB rfl) ?_
            refine VR.knownF 141 rfl (decide_eq_false (by omega)) ?_
            refine VR.pass rfl rfl ?_
            refine VR.pass rfl rfl ?_
            refine VR.pass rfl rfl ?_
            refine VR.pass rfl rfl ?_
            refine VR.pure rfl rfl (p_pickF rfl rfl) ?_
            refine VR.nil ?_
            repeat (first | refine VC.seq ?_ | refine VC.block ?_ | refine VC.skip ?_)
            refine VC.condF rfl rfl ?_
            repeat (first | refine VC.seq ?_ | refine VC.block ?_ | refine VC.skip ?_)
            repeat (first | refine VC.seq ?_ | refine VC.block ?_ | refine VC.skip ?_)
            refine VC.region ?_
            refine VR.pure rfl rfl (p_moveP rfl) ?_
            refine VR.pure rfl rfl (p_moveI rfl) ?_
            refine VR.call rfl rfl (r_call5 Try.call11 rfl rfl rfl rfl rfl) (prom_c (T := T) hm hT hLi.inv hno) ?_
            rintro _ w ⟨T', rfl, hab', hT', hm⟩
            refine VR.nil ?_
            repeat (first | refine VC.seq ?_ | refine VC.block ?_ | refine VC.skip ?_)
            repeat (first | refine VC.seq ?_ | refine VC.block ?_ | refine VC.skip ?_)
            refine VC.region ?_
            refine VR.pure rfl rfl (p_moveI rfl) ?_
            refine VR.pure rfl rfl (p_add64 rfl rfl (by omega)) ?_
            refine VR.pure rfl rfl (p_assignI rfl) ?_
            refine VR.nil ?_
            exact ⟨(i + 1, T'), ⟨rfl, rfl, rfl, rfl, rfl, rfl, rfl, rfl, rfl, rfl, trivial⟩, ⟨by show i + 1 ≤ n3 + n; omega, ⟨hm, hT', by rw [hab']; exact hLi.prom _, by rw [hab']; exact prom_C hC _⟩, by rw [hab']; exact hP.step (hLi.allE _ hzm).1 heq⟩, by show n3 + n - (i + 1) < n3 + n - i; omega⟩
        · repeat (first | refine VC.seq ?_ | refine VC.block ?_ | refine VC.skip ?_)
          refine VC.exit ?_
          obtain rfl : i = n3 + n := by omega
          repeat (first | refine VC.seq ?_ | refine VC.block ?_ | refine VC.skip ?_)
          repeat (first | refine VC.seq ?_ | refine VC.block ?_ | refine VC.skip ?_)
          refine VC.region ?_
          refine VR.pure rfl rfl (p_moveI rfl) ?_
          refine VR.pure rfl rfl (p_add64 rfl rfl (by omega)) ?_
          refine VR.pure rfl rfl (p_assignI rfl) ?_
          refine VR.nil ?_
          exact ⟨(k + 1, T), ⟨rfl, rfl, rfl, rfl, rfl, rfl, rfl, rfl, rfl, trivial⟩, ⟨by show k + 1 ≤ 2; omega, ⟨hm, hT, hLi, hC⟩, fun _ => hP⟩, by show 2 - (k + 1) < 2 - k; omega⟩
      · repeat (first | refine VC.seq ?_ | refine VC.block ?_ | refine VC.skip ?_)
        refine VC.exit ?_
        have hP2 := hP (by omega)
        rw [← hln] at hP2
        have h3 := fun hA => hLi.three hC hP2.full hA
        have htw := hLi.two
        clear hP hP2
        repeat (first | refine VC.seq ?_ | refine VC.block ?_ | refine VC.skip ?_)
        refine VC.region ?_
        refine VR.pure rfl rfl (p_assignI rfl) ?_
        refine VR.nil ?_
        repeat (first | refine VC.seq ?_ | refine VC.block ?_ | refine VC.skip ?_)
        refine VC.loop (σ := Nat × Tb) (fun s => [(1, .slice A1 n1 c1), (2, .slice A2 n2 c2), (3, .slice A3 n3 c3), (4, .pointer (some ⟨b4, 0, none⟩)), (9, .slice A9 way c9), (10, .int .i64 way), (11, .pointer (some ⟨g, 0, none⟩)), (12, .slice (some ⟨ba, oa, none⟩) n c), (20, .int .i64 s.1)])
          (fun s w => s.1 ≤ n3 + n ∧ POk G3 w g L9 id ac (os.map En.abs) all most s.2 ∧ (allA (os.map En.abs) all = true → 3 ≤ s.2.abs.stage) ∧ Nst all (sOf way n) s.1 s.2.abs) (fun s => n3 + n - s.1) (0, T) ⟨rfl, rfl, rfl, rfl, rfl, rfl, rfl, rfl, rfl, trivial⟩ ⟨by show 0 ≤ _; omega, ⟨hm, hT, hLi, hC⟩, h3, Nst.zero _ _ _⟩ ?_
        clear hm hT hLi hC h3 htw
        rintro ⟨i, T⟩ A7 w ⟨hi, ⟨hm, hT, hLi, hC⟩, h3, hN⟩
        dsimp only at hi hm hT hLi hC h3 hN ⊢
        repeat (first | refine VC.seq ?_ | refine VC.block ?_ | refine VC.skip ?_)
        refine VC.region ?_
        refine VR.pure rfl rfl (p_moveI rfl) ?_
        refine VR.pure rfl rfl (p_moveL rfl) ?_
        refine VR.pure rfl rfl (p_len Try.underlying26 rfl) ?_
        refine VR.pure rfl rfl (p_moveL rfl) ?_
        refine VR.pure rfl rfl (p_len Try.underlying26 rfl) ?_
        refine VR.pure rfl rfl (p_add64 rfl rfl (by omega)) ?_
        refine VR.pure rfl rfl (p_lt rfl rfl) ?_
        refine VR.nil ?_
        repeat (first | refine VC.seq ?_ | refine VC.block ?_ | refine VC.skip ?_)
        refine VC.condD rfl (fun hi2 => ?_) (fun hi2 => ?_)
        · obtain ⟨q, hq⟩ : ∃ q : Nat, q = i % n := ⟨_, rfl⟩
          have hqn : q < n := by rw [hq]; exact Nat.mod_lt i hpos
          obtain ⟨z, hz, hzm⟩ := get_of (xs := all) (k := q) (by omega)
          have hcz := (hca q hqn).trans (ints_at hz)
          repeat (first | refine VC.seq ?_ | refine VC.block ?_ | refine VC.skip ?_)
          repeat (first | refine VC.seq ?_ | refine VC.block ?_ | refine VC.skip ?_)
          refine VC.region ?_
          refine VR.pure rfl rfl (p_moveL rfl) ?_
          refine VR.pure rfl rfl (p_moveI rfl) ?_
          refine VR.pure rfl rfl (p_moveL rfl) ?_
          refine VR.pure rfl rfl (p_len Try.underlying26 rfl) ?_
          refine VR.pure rfl rfl (p_rem64E (r := (q : Int)) rfl rfl (by omega) (by omega) (by rw [hq]; rfl)) ?_
          refine VR.pure rfl rfl (p_idx1 Try.underlying26 Try.sizeOf3 rfl rfl hqn) ?_
          refine VR.val rfl rfl (r_load (v := .int _ _) Try.isAgg3 rfl (hm.fix _ _ hba) hcz) ?_
          refine VR.pure rfl rfl (p_assignI rfl) ?_
          refine VR.nil ?_
          repeat (first | refine VC.seq ?_ | refine VC.block ?_ | refine VC.skip ?_)
          refine VC.region ?_
          refine VR.pure rfl rfl (p_moveI rfl) ?_
          refine VR.pure rfl rfl (p_eq rfl rfl) ?_
          refine VR.nil ?_
          repeat (first | refine VC.seq ?_ | refine VC.block ?_ | refine VC.skip ?_)
          refine VC.condD rfl (fun hw0 => ?_) (fun hw0 => ?_)
          · obtain ⟨q2, hq2⟩ : ∃ q2 : Nat, q2 = n - 1 - q := ⟨_, rfl⟩
            have hq2n : q2 < n := by omega
            obtain ⟨z2, hz2, hz2m⟩ := get_of (xs := all) (k := q2) (by omega)
            have hcz2 := (hca q2 hq2n).trans (ints_at hz2)
            repeat (first | refine VC.seq ?_ | refine VC.block ?_ | refine VC.skip ?_)
            repeat (first | refine VC.seq ?_ | refine VC.block ?_ | refine VC.skip ?_)
            refine VC.region ?_
            refine VR.pure rfl rfl (p_moveL rfl) ?_
            refine VR.pure rfl rfl (p_moveL rfl) ?_
            refine VR.pure rfl rfl (p_len Try.underlying26 rfl) ?_
            refine VR.pure rfl rfl (p_sub64E (r := ((n - 1 : Nat) : Int)) rfl rfl (by omega) (by omega)) ?_
            refine VR.pure rfl rfl (p_moveI rfl) ?_
            refine VR.pure rfl rfl (p_moveL rfl) ?_
            refine VR.pure rfl rfl (p_len Try.underlying26 rfl) ?_
            refine VR.pure rfl rfl (p_rem64E (r := (q : Int)) rfl rfl (by omega) (by omega) (by rw [hq]; rfl)) ?_
            refine VR.pure rfl rfl (p_sub64E (r := (q2 : Int)) rfl rfl (by omega) (by omega)) ?_
            refine VR.pure rfl rfl (p_idx1 Try.underlying26 Try.sizeOf3 rfl rfl hq2n) ?_
            refine VR.val rfl rfl (r_load (v := .int _ _) Try.isAgg3 rfl (hm.fix _ _ hba) hcz2) ?_
            refine VR.pure rfl rfl (p_assignI rfl) ?_
            refine VR.nil ?_
            have he2 : all[sOf way n i]? = some z2 := by
              unfold sOf
              rw [if_pos (by omega), ← hq, ← hq2]
              exact hz2
            repeat (first | refine VC.seq ?_ | refine VC.block ?_ | refine VC.skip ?_)
            repeat (first | refine VC.seq ?_ | refine VC.block ?_ | refine VC.skip ?_)
            refine VC.region ?_
            refine VR.pure rfl rfl (p_moveP rfl) ?_
            refine VR.pure rfl rfl (p_moveI rfl) ?_
            refine VR.call rfl rfl (r_call2 Try.call12 rfl rfl) (ackNew_c (T := T) hm hT hLi.inv) ?_
            rintro _ w ⟨T', rfl, hab', hT', hm⟩
            refine VR.nil ?_
            repeat (first | refine VC.seq ?_ | refine VC.block ?_ | refine VC.skip ?_)
            repeat (first | refine VC.seq ?_ | refine VC.block ?_ | refine VC.skip ?_)
            refine VC.region ?_
            refine VR.pure rfl rfl (p_moveI rfl) ?_
            refine VR.pure rfl rfl (p_add64 rfl rfl (by omega)) ?_
            refine VR.pure rfl rfl (p_assignI rfl) ?_
            refine VR.nil ?_
            exact ⟨(i + 1, T'), ⟨rfl, rfl, rfl, rfl, rfl, rfl, rfl, rfl, rfl, trivial⟩, ⟨by show i + 1 ≤ n3 + n; omega, ⟨hm, hT', by rw [hab']; exact hLi.ackN _, by rw [hab']; exact ack_C hC _⟩, fun hA => by rw [hab']; exact Int.le_trans (h3 hA) (ack_ge _ _), by rw [hab']; exact hN.step (hLi.allE _ hz2m).1 he2 ⟨h3, hLi.two⟩⟩, by show n3 + n - (i + 1) < n3 + n - i; omega⟩
          · have he1 : all[sOf way n i]? = some z := by
              unfold sOf
              rw [if_neg (by omega), ← hq]
              exact hz
            repeat (first | refine VC.seq ?_ | refine VC.block ?_ | refine VC.skip ?_)
            repeat (first | refine VC.seq ?_ | refine VC.block ?_ | refine VC.skip ?_)
            refine VC.region ?_
            refine VR.pure rfl rfl (p_moveP rfl) ?_
            refine VR.pure rfl rfl (p_moveI rfl) ?_
            refine VR.call rfl rfl (r_call2 Try.call12 rfl rfl) (ackNew_c (T := T) hm hT hLi.inv) ?_
            rintro _ w ⟨T', rfl, hab', hT', hm⟩
            refine VR.nil ?_
            repeat (first | refine VC.seq ?_ | refine VC.block ?_ | refine VC.skip ?_)
            repeat (first | refine VC.seq ?_ | refine VC.block ?_ | refine VC.skip ?_)
            refine VC.region ?_
            refine VR.pure rfl rfl (p_moveI rfl) ?_
            refine VR.pure rfl rfl (p_add64 rfl rfl (by omega)) ?_
            refine VR.pure rfl rfl (p_assignI rfl) ?_
            refine VR.nil ?_
            exact ⟨(i + 1, T'), ⟨rfl, rfl, rfl, rfl, rfl, rfl, rfl, rfl, rfl, trivial⟩, ⟨by show i + 1 ≤ n3 + n; omega, ⟨hm, hT', by rw [hab']; exact hLi.ackN _, by rw [hab']; exact ack_C hC _⟩, fun hA => by rw [hab']; exact Int.le_trans (h3 hA) (ack_ge _ _), by rw [hab']; exact hN.step (hLi.allE _ hzm).1 he1 ⟨h3, hLi.two⟩⟩, by show n3 + n - (i + 1) < n3 + n - i; omega⟩
        · repeat (first | refine VC.seq ?_ | refine VC.block ?_ | refine VC.skip ?_)
          refine VC.exit ?_
          obtain rfl : i = n3 + n := by omega
          rw [← hln] at hN
          have hend := (hLi.four hC h3 hN.full).trans hst.symm
          replace hend : T.stage = st := hend
          repeat (first | refine VC.seq ?_ | refine VC.block ?_ | refine VC.skip ?_)
          refine VC.region ?_
          refine VR.pure rfl rfl (p_moveL rfl) ?_
          refine VR.pure rfl rfl (p_moveP rfl) ?_
          refine VR.call rfl rfl (r_call1 Try.call9 rfl) (stage_c (T := T) hm.all (hm.plus_at 0 0 rfl)) ?_
          rintro _ w ⟨rfl, hm'⟩
          replace hm := hm.back0 hm'
          refine VR.new hm rfl rfl (n_buildSlice1 (vs := [.int _ _]) Try.underlying28 inf32 rfl rfl rfl rfl rfl rfl rfl) ?_
          intro b195 w hm
          replace hm := hm.pull 2 rfl
          refine VR.append (s := 1) (bytes := 1) Try.underlying28 inf32 rfl rfl rfl rfl rfl rfl rfl rfl rfl hm ho9 (Row.lit (cs := [.int .u8 T.stage]) (hm.at_ 1 0 rfl)) (by simp [Value.oneCell']) rfl ⟨by unfold maxLen; omega, by omega⟩ ?_
          intro A8 c8 w L8 ho8 hm
          refine VR.pure rfl rfl (p_assignL rfl) ?_
          refine VR.nil ?_
          replace hm : Mem G3 _ (L8 :: [(g, T.ob)] :: []) := hm.pop2
          rw [hend, ← List.replicate_succ'] at ho8
          repeat (first | refine VC.seq ?_ | refine VC.block ?_ | refine VC.skip ?_)
          refine VC.loud (Kept G3 []) [1, 6] rfl (by kernel_rfl) (Kept.of0 hm.drew) ?_
          replace hm := hm.drew
          refine VL.pure rfl rfl rfl (p_moveP rfl) ?_
          refine VL.call rfl rfl rfl (r_call1 Try.call9 rfl) (stage_c (T := T) hm.all (hm.plus_at 1 0 rfl)) ?_
          rintro _ w ⟨rfl, hm'⟩
          replace hm := hm.back0 hm'
          refine ⟨Kept.of0 hm, ?_⟩
          refine VL.pure rfl rfl rfl (p_eq rfl rfl) ?_
          refine VL.pure rfl rfl rfl (p_field (fo := 4) Try.underlying25 rfl Try.sizeOf23 rfl rfl rfl) ?_
          refine VL.read rfl rfl rfl (fun w' hw' => r_load (v := .slice _ _ _) Try.isAgg23 rfl (hw'.fix _ _ hb3) rfl) ?_
          refine VL.pure rfl rfl rfl (p_moveL rfl) ?_
          refine VL.call rfl rfl rfl (r_call2 Try.call13 rfl rfl) (all2_c (es := os) (ids := all) hm hn0 hes3 (by unfold maxLen; omega) hall) ?_
          rintro _ w ⟨rfl, hm⟩
          refine ⟨Kept.of0 hm, ?_⟩
          refine VL.pure rfl rfl rfl (p_neB Try.underlying4 rfl rfl) ?_
          refine VL.nil ?_
          repeat (first | refine VC.seq ?_ | refine VC.block ?_ | refine VC.skip ?_)
          refine VC.condF rfl (end_eq (hend.trans hst)) ?_
          repeat (first | refine VC.seq ?_ | refine VC.block ?_ | refine VC.skip ?_)
          repeat (first | refine VC.seq ?_ | refine VC.block ?_ | refine VC.skip ?_)
          refine VC.region ?_
          refine VR.pure rfl rfl (p_moveI rfl) ?_
          refine VR.pure rfl rfl (p_add64 rfl rfl (by omega)) ?_
          refine VR.pure rfl rfl (p_assignI rfl) ?_
          refine VR.nil ?_
          exact ⟨(way + 1, A8, c8, L8), ⟨rfl, rfl, rfl, rfl, rfl, rfl, trivial⟩, ⟨by show way + 1 ≤ 2; omega, G3, hu.trans (hu2.trans hu3), hm.pop2, ho8⟩, by show 2 - (way + 1) < 2 - way; omega⟩
    · repeat (first | refine VC.seq ?_ | refine VC.block ?_ | refine VC.skip ?_)
      refine VC.loud (Kept G2 []) [1, 5, 11] rfl (by kernel_rfl) (Kept.of0 hm.drew) ?_
      replace hm := hm.drew
      refine VL.pure rfl rfl rfl (p_moveP rfl) ?_
      refine VL.call rfl rfl rfl (r_call1 Try.call9 rfl) (stage_c (T := T) hm.all (hm.plus_at 1 0 rfl)) ?_
      rintro _ w ⟨rfl, hm'⟩
      replace hm := hm.back0 hm'
      refine ⟨Kept.of0 hm, ?_⟩
      refine VL.pure rfl rfl rfl (p_ge rfl rfl) ?_
      refine VL.pure rfl rfl rfl (p_moveB rfl) ?_
      refine VL.knownF 105 rfl (decide_eq_false h2) ?_
      refine VL.pass rfl rfl ?_
      refine VL.pass rfl rfl ?_
      refine VL.pass rfl rfl ?_
      refine VL.pass rfl rfl ?_
      refine VL.pass rfl rfl ?_
      refine VL.pass rfl rfl ?_
      refine VL.pass rfl rfl ?_
      refine VL.pass rfl rfl ?_
      refine VL.pass rfl rfl ?_
      refine VL.pass rfl rfl ?_
      refine VL.pass rfl rfl ?_
      refine VL.pass rfl rfl ?_
      refine VL.pure rfl rfl rfl (p_pickF rfl rfl) ?_
      refine VL.nil ?_
      repeat (first | refine VC.seq ?_ | refine VC.block ?_ | refine VC.skip ?_)
      refine VC.condF rfl rfl ?_
      obtain ⟨G3, hu3, hm, hL⟩ := hm.freeze
      have hall := ho.row1 hL
      have hu03 := hu02.trans hu3
      have hb3 := hu03.heap _ _ hb4
      obtain ⟨ba, oa, bla, Ta2, fa, rfl, hba, hca⟩ := Row.get hall hpos
      replace hT := hT.mono hu3.heap
      have hes3 := hes.mono hu03.heap
      have hsE3 : sE.all = all := by rw [← hg]
      rw [hsE3] at hst
      clear ho hL hep hepl hepr hg hsE3
      generalize hln : all.length = n at hal hpos hca hall
      have hzs3 := hzs.mono hu03.heap
      try rw [hln]
      repeat (first | refine VC.seq ?_ | refine VC.block ?_ | refine VC.skip ?_)
      refine VC.region ?_
      refine VR.pure rfl rfl (p_assignI rfl) ?_
      refine VR.nil ?_
      repeat (first | refine VC.seq ?_ | refine VC.block ?_ | refine VC.skip ?_)
      refine VC.loop (σ := Nat × Tb) (fun s => [(1, .slice A1 n1 c1), (2, .slice A2 n2 c2), (3, .slice A3 n3 c3), (4, .pointer (some ⟨b4, 0, none⟩)), (9, .slice A9 way c9), (10, .int .i64 way), (11, .pointer (some ⟨g, 0, none⟩)), (12, .slice (some ⟨ba, oa, none⟩) n c), (17, .int .i64 s.1)])
        (fun s w => s.1 ≤ 2 ∧ POk G3 w g L9 id ac (os.map En.abs) all most s.2 ∧ (0 < s.1 → Pst all n3 (n3 + n) s.2.abs)) (fun s => 2 - s.1) (0, T) ⟨rfl, rfl, rfl, rfl, rfl, rfl, rfl, rfl, rfl, trivial⟩ ⟨by show 0 ≤ 2; omega, ⟨hm, hT, hLi, hC⟩, fun h => absurd h (by show ¬ 0 < 0; omega)⟩ ?_
      clear hm hT hLi hC
      rintro ⟨k, T⟩ A6 w ⟨hk2, ⟨hm, hT, hLi, hC⟩, hP⟩
      dsimp only at hk2 hm hT hLi hC hP ⊢
      repeat (first | refine VC.seq ?_ | refine VC.block ?_ | refine VC.skip ?_)
      refine VC.region ?_
      refine VR.pure rfl rfl (p_moveI rfl) ?_
      refine VR.pure rfl rfl (p_lt rfl rfl) ?_
      refine VR.nil ?_
      repeat (first | refine VC.seq ?_ | refine VC.block ?_ | refine VC.skip ?_)
      refine VC.condD rfl (fun hk3 => ?_) (fun hk3 => ?_)
      · repeat (first | refine VC.seq ?_ | refine VC.block ?_ | refine VC.skip ?_)
        repeat (first | refine VC.seq ?_ | refine VC.block ?_ | refine VC.skip ?_)
        refine VC.region ?_
        refine VR.pure rfl rfl (p_assignI rfl) ?_
        refine VR.nil ?_
        repeat (first | refine VC.seq ?_ | refine VC.block ?_ | refine VC.skip ?_)
        refine VC.loop (σ := Nat × Tb) (fun s => [(1, .slice A1 n1 c1), (2, .slice A2 n2 c2), (3, .slice A3 n3 c3), (4, .pointer (some ⟨b4, 0, none⟩)), (9, .slice A9 way c9), (10, .int .i64 way), (11, .pointer (some ⟨g, 0, none⟩)), (12, .slice (some ⟨ba, oa, none⟩) n c), (17, .int .i64 k), (18, .int .i64 s.1)])
          (fun s w => s.1 ≤ n3 + n ∧ POk G3 w g L9 id ac (os.map En.abs) all most s.2 ∧ Pst all n3 s.1 s.2.abs) (fun s => n3 + n - s.1) (0, T) ⟨rfl, rfl, rfl, rfl, rfl, rfl, rfl, rfl, rfl, rfl, trivial⟩ ⟨by show 0 ≤ _; omega, ⟨hm, hT, hLi, hC⟩, Pst.zero _ _ _⟩ ?_
        clear hm hT hLi hC hP
        rintro ⟨i, T⟩ A7 w ⟨hi, ⟨hm, hT, hLi, hC⟩, hP⟩
        dsimp only at hi hm hT hLi hC hP ⊢
        repeat (first | refine VC.seq ?_ | refine VC.block ?_ | refine VC.skip ?_)
        refine VC.region ?_
        refine VR.pure rfl rfl (p_moveI rfl) ?_
        refine VR.pure rfl rfl (p_moveL rfl) ?_
        refine VR.pure rfl rfl (p_len Try.underlying26 rfl) ?_
        refine VR.pure rfl rfl (p_moveL rfl) ?_
        refine VR.pure rfl rfl (p_len Try.underlying26 rfl) ?_
        refine VR.pure rfl rfl (p_add64 rfl rfl (by omega)) ?_
        refine VR.pure rfl rfl (p_lt rfl rfl) ?_
        refine VR.nil ?_
        repeat (first | refine VC.seq ?_ | refine VC.block ?_ | refine VC.skip ?_)
        refine VC.condD rfl (fun hi2 => ?_) (fun hi2 => ?_)
        · obtain ⟨q, hq⟩ : ∃ q : Nat, q = i % n := ⟨_, rfl⟩
          have hqn : q < n := by rw [hq]; exact Nat.mod_lt i hpos
          obtain ⟨z, hz, hzm⟩ := get_of (xs := all) (k := q) (by omega)
          have hcz := (hca q hqn).trans (ints_at hz)
          have hcur := hLi.cur
          have hlast := hLi.inv.last
          have hno : ¬ (T.cur < 0 ∨ (0 : Int) = T.cur ∧ T.last < 0) := fun h => h.elim (fun h => by have : 0 ≤ T.cur := hcur; omega) fun h => by have : 0 ≤ T.last := hlast.1; omega
          have heq : n3 ≤ i → all[i % all.length]? = some z := fun _ => by rw [hln, ← hq]; exact hz
          repeat (first | refine VC.seq ?_ | refine VC.block ?_ | refine VC.skip ?_)
          repeat (first | refine VC.seq ?_ | refine VC.block ?_ | refine VC.skip ?_)
          refine VC.region ?_
          refine VR.pure rfl rfl (p_moveL rfl) ?_
          refine VR.pure rfl rfl (p_moveI rfl) ?_
          refine VR.pure rfl rfl (p_moveL rfl) ?_
          refine VR.pure rfl rfl (p_len Try.underlying26 rfl) ?_
          refine VR.pure rfl rfl (p_rem64E (r := (q : Int)) rfl rfl (by omega) (by omega) (by rw [hq]; rfl)) ?_
          refine VR.pure rfl rfl (p_idx1 Try.underlying26 Try.sizeOf3 rfl rfl hqn) ?_
          refine VR.val rfl rfl (r_load (v := .int _ _) Try.isAgg3 rfl (hm.fix _ _ hba) hcz) ?_
          refine VR.pure rfl rfl (p_assignI rfl) ?_
          refine VR.nil ?_
          by_cases hw1 : way = 1
          · repeat (first | refine VC.seq ?_ | refine VC.block ?_ | refine VC.skip ?_)
            refine VC.region ?_
            refine VR.pure rfl rfl (p_moveI rfl) ?_
            refine VR.pure rfl rfl (p_eq rfl rfl) ?_
            refine VR.pure rfl rfl (p_moveB rfl) ?_
            refine VR.knownT 141 rfl (decide_eq_true (by omega)) ?_
            refine VR.pureG rfl rfl (p_moveI rfl) ?_
            refine VR.pureG rfl rfl (p_moveL rfl) ?_
            refine VR.pureG rfl rfl (p_len Try.underlying26 rfl) ?_
            refine VR.pureG rfl rfl (p_lt rfl rfl) ?_
            refine VR.pure rfl rfl (p_pickT rfl rfl) ?_
            refine VR.nil ?_
            repeat (first | refine VC.seq ?_ | refine VC.block ?_ | refine VC.skip ?_)
            refine VC.condD rfl (fun hi3 => ?_) (fun hi3 => ?_)
            · have hi4 : i < n3 := by omega
              obtain ⟨o, ho, _⟩ := get_of (xs := zs) (k := i) (by omega)
              obtain ⟨bo, oo, blo, To, fo, rfl, hbo, hco⟩ := Row.get hzs3 (by omega)
              have hco1 := (hco i hi4).trans (ints_at ho)
              have hpo := pickF_in (x := o) (n := (n : Int)) (by omega)
              obtain ⟨m, hpm, hmn⟩ : ∃ m : Nat, pickF o n = m ∧ m < n := ⟨(pickF o n).toNat, by omega, by omega⟩
              obtain ⟨z2, hz2, hz2m⟩ := get_of (xs := all) (k := m) (by omega)
              have hcz2 := (hca m hmn).trans (ints_at hz2)
              repeat (first | refine VC.seq ?_ | refine VC.block ?_ | refine VC.skip ?_)
              repeat (first | refine VC.seq ?_ | refine VC.block ?_ | refine VC.skip ?_)
              refine VC.region ?_
              refine VR.pure rfl rfl (p_moveL rfl) ?_
              refine VR.pure rfl rfl (p_moveL rfl) ?_
              refine VR.pure rfl rfl (p_moveI rfl) ?_
              refine VR.pure rfl rfl (p_idx1 Try.underlying26 Try.sizeOf3 rfl rfl hi4) ?_
              refine VR.val rfl rfl (r_load (v := .int _ _) Try.isAgg3 rfl (hm.fix _ _ hbo) hco1) ?_
              refine VR.pure rfl rfl (p_moveL rfl) ?_
              refine VR.pure rfl rfl (p_len Try.underlying26 rfl) ?_
              refine VR.call rfl rfl (r_call2 Try.call7 rfl rfl) (pickN_c (by omega) hpm) ?_
              rintro _ _ ⟨rfl, rfl⟩
              refine VR.pure rfl rfl (p_idx1 Try.underlying26 Try.sizeOf3 rfl rfl hmn) ?_
              refine VR.val rfl rfl (r_load (v := .int _ _) Try.isAgg3 rfl (hm.fix _ _ hba) hcz2) ?_
              refine VR.pure rfl rfl (p_assignI rfl) ?_
              refine VR.nil ?_
              have hno2 : n3 ≤ i → all[i % all.length]? = some z2 := fun h => absurd hi4 (Nat.not_lt.2 h)
              repeat (first | refine VC.seq ?_ | refine VC.block ?_ | refine VC.skip ?_)
              repeat (first | refine VC.seq ?_ | refine VC.block ?_ | refine VC.skip ?_)
              refine VC.region ?_
              refine VR.pure rfl rfl (p_moveP rfl) ?_
              refine VR.pure rfl rfl (p_moveI rfl) ?_
              refine VR.call rfl rfl (r_call5 Try.call11 rfl rfl rfl rfl rfl) (prom_c (T := T) hm hT hLi.inv hno) ?_
              rintro _ w ⟨T', rfl, hab', hT', hm⟩
              refine VR.nil ?_
              repeat (first | refine VC.seq ?_ | refine VC.block ?_ | refine VC.skip ?_)
              repeat (first | refine VC.seq ?_ | refine VC.block ?_ | refine VC.skip ?_)
              refine VC.region ?_
              refine VR.pure rfl rfl (p_moveI rfl) ?_
              refine VR.pure rfl rfl (p_add64 rfl rfl (by omega)) ?_
              refine VR.pure rfl rfl (p_assignI rfl) ?_
              refine VR.nil ?_
              exact ⟨(i + 1, T'), ⟨rfl, rfl, rfl, rfl, rfl, rfl, rfl, rfl, rfl, rfl, trivial⟩, ⟨by show i + 1 ≤ n3 + n; omega, ⟨hm, hT', by rw [hab']; exact hLi.prom _, by rw [hab']; exact prom_C hC _⟩, by rw [hab']; exact hP.step (hLi.allE _ hz2m).1 hno2⟩, by show n3 + n - (i + 1) < n3 + n - i; omega⟩
            · repeat (first | refine VC.seq ?_ | refine VC.block ?_ | refine VC.skip ?_)
              repeat (first | refine VC.seq ?_ | refine VC.block ?_ | refine VC.skip ?_)
              refine VC.region ?_
              refine VR.pure rfl rfl (p_moveP rfl) ?_
              refine VR.pure rfl rfl (p_moveI rfl) ?_
              refine VR.call rfl rfl (r_call5 Try.call11 rfl rfl rfl rfl rfl) (prom_c (T := T) hm hT hLi.inv hno) ?_
              rintro _ w ⟨T', rfl, hab', hT', hm⟩
              refine VR.nil ?_
              repeat (first | refine VC.seq ?_ | refine VC.block ?_ | refine VC.skip ?_)
              repeat (first | refine VC.seq ?_ | refine VC.block ?_ | refine VC.skip ?_)
              refine VC.region ?_
              refine VR.pure rfl rfl (p_moveI rfl) ?_
              refine VR.pure rfl rfl (p_add64 rfl rfl (by omega)) ?_
              refine VR.pure rfl rfl (p_assignI rfl) ?_
              refine VR.nil ?_
              exact ⟨(i + 1, T'), ⟨rfl, rfl, rfl, rfl, rfl, rfl, rfl, rfl, rfl, rfl, trivial⟩, ⟨by show i + 1 ≤ n3 + n; omega, ⟨hm, hT', by rw [hab']; exact hLi.prom _, by rw [hab']; exact prom_C hC _⟩, by rw [hab']; exact hP.step (hLi.allE _ hzm).1 heq⟩, by show n3 + n - (i + 1) < n3 + n - i; omega⟩
          · repeat (first | refine VC.seq ?_ | refine VC.block ?_ | refine VC.skip ?_)
            refine VC.region ?_
            refine VR.pure rfl rfl (p_moveI rfl) ?_
            refine VR.pure rfl rfl (p_eq rfl rfl) ?_
            refine VR.pure rfl rfl (p_moveB rfl) ?_
            refine VR.knownF 141 rfl (decide_eq_false (by omega)) ?_
            refine VR.pass rfl rfl ?_
            refine VR.pass rfl rfl ?_
            refine VR.pass rfl rfl ?_
            refine VR.pass rfl rfl ?_
            refine VR.pure rfl rfl (p_pickF rfl rfl) ?_
            refine VR.nil ?_
            repeat (first | refine VC.seq ?_ | refine VC.block ?_ | refine VC.skip ?_)
            refine VC.condF rfl rfl ?_
            repeat (first | refine VC.seq ?_ | refine VC.block ?_ | refine VC.skip ?_)
            repeat (first | refine VC.seq ?_ | refine VC.block ?_ | refine VC.skip ?_)
            refine VC.region ?_
            refine VR.pure rfl rfl (p_moveP rfl) ?_
            refine VR.pure rfl rfl (p_moveI rfl) ?_
            refine VR.call rfl rfl (r_call5 Try.call11 rfl rfl rfl rfl rfl) (prom_c (T := T) hm hT hLi.inv hno) ?_
            rintro _ w ⟨T', rfl, hab', hT', hm⟩
            refine VR.nil ?_
            repeat (first | refine VC.seq ?_ | refine VC.block ?_ | refine VC.skip ?_)
            repeat (first | refine VC.seq ?_ | refine VC.block ?_ | refine VC.skip ?_)
            refine VC.region ?_
            refine VR.pure rfl rfl (p_moveI rfl) ?_
            refine VR.pure rfl rfl (p_add64 rfl rfl (by omega)) ?_
            refine VR.pure rfl rfl (p_assignI rfl) ?_
            refine VR.nil ?_
            exact ⟨(i + 1, T'), ⟨rfl, rfl, rfl, rfl, rfl, rfl, rfl, rfl, rfl, rfl, trivial⟩, ⟨by show i + 1 ≤ n3 + n; omega, ⟨hm, hT', by rw [hab']; exact hLi.prom _, by rw [hab']; exact prom_C hC _⟩, by rw [hab']; exact hP.step (hLi.allE _ hzm).1 heq⟩, by show n3 + n - (i + 1) < n3 + n - i; omega⟩
        · repeat (first | refine VC.seq ?_ | refine VC.block ?_ | refine VC.skip ?_)
          refine VC.exit ?_
          obtain rfl : i = n3 + n := by omega
          repeat (first | refine VC.seq ?_ | refine VC.block ?_ | refine VC.skip ?_)
          repeat (first | refine VC.seq ?_ | refine VC.block ?_ | refine VC.skip ?_)
          refine VC.region ?_
          refine VR.pure rfl rfl (p_moveI rfl) ?_
          refine VR.pure rfl rfl (p_add64 rfl rfl (by omega)) ?_
          refine VR.pure rfl rfl (p_assignI rfl) ?_
          refine VR.nil ?_
          exact ⟨(k + 1, T), ⟨rfl, rfl, rfl, rfl, rfl, rfl, rfl, rfl, rfl, trivial⟩, ⟨by show k + 1 ≤ 2; omega, ⟨hm, hT, hLi, hC⟩, fun _ => hP⟩, by show 2 - (k + 1) < 2 - k; omega⟩
      · repeat (first | refine VC.seq ?_ | refine VC.block ?_ | refine VC.skip ?_)
        refine VC.exit ?_
        have hP2 := hP (by omega)
        rw [← hln] at hP2
        have h3 := fun hA => hLi.three hC hP2.full hA
        have htw := hLi.two
        clear hP hP2
        repeat (first | refine VC.seq ?_ | refine VC.block ?_ | refine VC.skip ?_)
        refine VC.region ?_
        refine VR.pure rfl rfl (p_assignI rfl) ?_
        refine VR.nil ?_
        repeat (first | refine VC.seq ?_ | refine VC.block ?_ | refine VC.skip ?_)
        refine VC.loop (σ := Nat × Tb) (fun s => [(1, .slice A1 n1 c1), (2, .slice A2 n2 c2), (3, .slice A3 n3 c3), (4, .pointer (some ⟨b4, 0, none⟩)), (9, .slice A9 way c9), (10, .int .i64 way), (11, .pointer (some ⟨g, 0, none⟩)), (12, .slice (some ⟨ba, oa, none⟩) n c), (20, .int .i64 s.1)])
          (fun s w => s.1 ≤ n3 + n ∧ POk G3 w g L9 id ac (os.map En.abs) all most s.2 ∧ (allA (os.map En.abs) all = true → 3 ≤ s.2.abs.stage) ∧ Nst all (sOf way n) s.1 s.2.abs) (fun s => n3 + n - s.1) (0, T) ⟨rfl, rfl, rfl, rfl, rfl, rfl, rfl, rfl, rfl, trivial⟩ ⟨by show 0 ≤ _; omega, ⟨hm, hT, hLi, hC⟩, h3, Nst.zero _ _ _⟩ ?_
        clear hm hT hLi hC h3 htw
        rintro ⟨i, T⟩ A7 w ⟨hi, ⟨hm, hT, hLi, hC⟩, h3, hN⟩
        dsimp only at hi hm hT hLi hC h3 hN ⊢
        repeat (first | refine VC.seq ?_ | refine VC.block ?_ | refine VC.skip ?_)
        refine VC.region ?_
        refine VR.pure rfl rfl (p_moveI rfl) ?_
        refine VR.pure rfl rfl (p_moveL rfl) ?_
        refine VR.pure rfl rfl (p_len Try.underlying26 rfl) ?_
        refine VR.pure rfl rfl (p_moveL rfl) ?_
        refine VR.pure rfl rfl (p_len Try.underlying26 rfl) ?_
        refine VR.pure rfl rfl (p_add64 rfl rfl (by omega)) ?_
        refine VR.pure rfl rfl (p_lt rfl rfl) ?_
        refine VR.nil ?_
        repeat (first | refine VC.seq ?_ | refine VC.block ?_ | refine VC.skip ?_)
        refine VC.condD rfl (fun hi2 => ?_) (fun hi2 => ?_)
        · obtain ⟨q, hq⟩ : ∃ q : Nat, q = i % n := ⟨_, rfl⟩
          have hqn : q < n := by rw [hq]; exact Nat.mod_lt i hpos
          obtain ⟨z, hz, hzm⟩ := get_of (xs := all) (k := q) (by omega)
          have hcz := (hca q hqn).trans (ints_at hz)
          repeat (first | refine VC.seq ?_ | refine VC.block ?_ | refine VC.skip ?_)
          repeat (first | refine VC.seq ?_ | refine VC.block ?_ | refine VC.skip ?_)
          refine VC.region ?_
          refine VR.pure rfl rfl (p_moveL rfl) ?_
          refine VR.pure rfl rfl (p_moveI rfl) ?_
          refine VR.pure rfl rfl (p_moveL rfl) ?_
          refine VR.pure rfl rfl (p_len Try.underlying26 rfl) ?_
          refine VR.pure rfl rfl (p_rem64E (r := (q : Int)) rfl rfl (by omega) (by omega) (by rw [hq]; rfl)) ?_
          refine VR.pure rfl rfl (p_idx1 Try.underlying26 Try.sizeOf3 rfl rfl hqn) ?_
          refine VR.val rfl rfl (r_load (v := .int _ _) Try.isAgg3 rfl (hm.fix _ _ hba) hcz) ?_
          refine VR.pure rfl rfl (p_assignI rfl) ?_
          refine VR.nil ?_
          repeat (first | refine VC.seq ?_ | refine VC.block ?_ | refine VC.skip ?_)
          refine VC.region ?_
          refine VR.pure rfl rfl (p_moveI rfl) ?_
          refine VR.pure rfl rfl (p_eq rfl rfl) ?_
          refine VR.nil ?_
          repeat (first | refine VC.seq ?_ | refine VC.block ?_ | refine VC.skip ?_)
          refine VC.condD rfl (fun hw0 => ?_) (fun hw0 => ?_)
          · obtain ⟨q2, hq2⟩ : ∃ q2 : Nat, q2 = n - 1 - q := ⟨_, rfl⟩
            have hq2n : q2 < n := by omega
            obtain ⟨z2, hz2, hz2m⟩ := get_of (xs := all) (k := q2) (by omega)
            have hcz2 := (hca q2 hq2n).trans (ints_at hz2)
            repeat (first | refine VC.seq ?_ | refine VC.block ?_ | refine VC.skip ?_)
            repeat (first | refine VC.seq ?_ | refine VC.block ?_ | refine VC.skip ?_)
            refine VC.region ?_
            refine VR.pure rfl rfl (p_moveL rfl) ?_
            refine VR.pure rfl rfl (p_moveL rfl) ?_
            refine VR.pure rfl rfl (p_len Try.underlying26 rfl) ?_
            refine VR.pure rfl rfl (p_sub64E (r := ((n - 1 : Nat) : Int)) rfl rfl (by omega) (by omega)) ?_
            refine VR.pure rfl rfl (p_moveI rfl) ?_
            refine VR.pure rfl rfl (p_moveL rfl) ?_
            refine VR.pure rfl rfl (p_len Try.underlying26 rfl) ?_
            refine VR.pure rfl rfl (p_rem64E (r := (q : Int)) rfl rfl (by omega) (by omega) (by rw [hq]; rfl)) ?_
            refine VR.pure rfl rfl (p_sub64E (r := (q2 : Int)) rfl rfl (by omega) (by omega)) ?_
            refine VR.pure rfl rfl (p_idx1 Try.underlying26 Try.sizeOf3 rfl rfl hq2n) ?_
            refine VR.val rfl rfl (r_load (v := .int _ _) Try.isAgg3 rfl (hm.fix _ _ hba) hcz2) ?_
            refine VR.pure rfl rfl (p_assignI rfl) ?_
            refine VR.nil ?_
            have he2 : all[sOf way n i]? = some z2 := by
              unfold sOf
              rw [if_pos (by omega), ← hq, ← hq2]
              exact hz2
            repeat (first | refine VC.seq ?_ | refine VC.block ?_ | refine VC.skip ?_)
            repeat (first | refine VC.seq ?_ | refine VC.block ?_ | refine VC.skip ?_)
            refine VC.region ?_
            refine VR.pure rfl rfl (p_moveP rfl) ?_
            refine VR.pure rfl rfl (p_moveI rfl) ?_
            refine VR.call rfl rfl (r_call2 Try.call12 rfl rfl) (ackNew_c (T := T) hm hT hLi.inv) ?_
            rintro _ w ⟨T', rfl, hab', hT', hm⟩
            refine VR.nil ?_
            repeat (first | refine VC.seq ?_ | refine VC.block ?_ | refine VC.skip ?_)
            repeat (first | refine VC.seq ?_ | refine VC.block ?_ | refine VC.skip ?_)
            refine VC.region ?_
            refine VR.pure rfl rfl (p_moveI rfl) ?_
            refine VR.pure rfl rfl (p_add64 rfl rfl (by omega)) ?_
            refine VR.pure rfl rfl (p_assignI rfl) ?_
            refine VR.nil ?_
            exact ⟨(i + 1, T'), ⟨rfl, rfl, rfl, rfl, rfl, rfl, rfl, rfl, rfl, trivial⟩, ⟨by show i + 1 ≤ n3 + n; omega, ⟨hm, hT', by rw [hab']; exact hLi.ackN _, by rw [hab']; exact ack_C hC _⟩, fun hA => by rw [hab']; exact Int.le_trans (h3 hA) (ack_ge _ _), by rw [hab']; exact hN.step (hLi.allE _ hz2m).1 he2 ⟨h3, hLi.two⟩⟩, by show n3 + n - (i + 1) < n3 + n - i; omega⟩
          · have he1 : all[sOf way n i]? = some z := by
              unfold sOf
              rw [if_neg (by omega), ← hq]
              exact hz
            repeat (first | refine VC.seq ?_ | refine VC.block ?_ | refine VC.skip ?_)
            repeat (first | refine VC.seq ?_ | refine VC.block ?_ | refine VC.skip ?_)
            refine VC.region ?_
            refine VR.pure rfl rfl (p_moveP rfl) ?_
            refine VR.pure rfl rfl (p_moveI rfl) ?_
            refine VR.call rfl rfl (r_call2 Try.call12 rfl rfl) (ackNew_c (T := T) hm hT hLi.inv) ?_
            rintro _ w ⟨T', rfl, hab', hT', hm⟩
            refine VR.nil ?_
            repeat (first | refine VC.seq ?_ | refine VC.block ?_ | refine VC.skip ?_)
            repeat (first | refine VC.seq ?_ | refine VC.block ?_ | refine VC.skip ?_)
            refine VC.region ?_
            refine VR.pure rfl rfl (p_moveI rfl) ?_
            refine VR.pure rfl rfl (p_add64 rfl rfl (by omega)) ?_
            refine VR.pure rfl rfl (p_assignI rfl) ?_
            refine VR.nil ?_
            exact ⟨(i + 1, T'), ⟨rfl, rfl, rfl, rfl, rfl, rfl, rfl, rfl, rfl, trivial⟩, ⟨by show i + 1 ≤ n3 + n; omega, ⟨hm, hT', by rw [hab']; exact hLi.ackN _, by rw [hab']; exact ack_C hC _⟩, fun hA => by rw [hab']; exact Int.le_trans (h3 hA) (ack_ge _ _), by rw [hab']; exact hN.step (hLi.allE _ hzm).1 he1 ⟨h3, hLi.two⟩⟩, by show n3 + n - (i + 1) < n3 + n - i; omega⟩
        · repeat (first | refine VC.seq ?_ | refine VC.block ?_ | refine VC.skip ?_)
          refine VC.exit ?_
          obtain rfl : i = n3 + n := by omega
          rw [← hln] at hN
          have hend := (hLi.four hC h3 hN.full).trans hst.symm
          replace hend : T.stage = st := hend
          repeat (first | refine VC.seq ?_ | refine VC.block ?_ | refine VC.skip ?_)
          refine VC.region ?_
          refine VR.pure rfl rfl (p_moveL rfl) ?_
          refine VR.pure rfl rfl (p_moveP rfl) ?_
          refine VR.call rfl rfl (r_call1 Try.call9 rfl) (stage_c (T := T) hm.all (hm.plus_at 0 0 rfl)) ?_
          rintro _ w ⟨rfl, hm'⟩
          replace hm := hm.back0 hm'
          refine VR.new hm rfl rfl (n_buildSlice1 (vs := [.int _ _]) Try.underlying28 inf32 rfl rfl rfl rfl rfl rfl rfl) ?_
          intro b195 w hm
          replace hm := hm.pull 2 rfl
          refine VR.append (s := 1) (bytes := 1) Try.underlying28 inf32 rfl rfl rfl rfl rfl rfl rfl rfl rfl hm ho9 (Row.lit (cs := [.int .u8 T.stage]) (hm.at_ 1 0 rfl)) (by simp [Value.oneCell']) rfl ⟨by unfold maxLen; omega, by omega⟩ ?_
          intro A8 c8 w L8 ho8 hm
          refine VR.pure rfl rfl (p_assignL rfl) ?_
          refine VR.nil ?_
          replace hm : Mem G3 _ (L8 :: [(g, T.ob)] :: []) := hm.pop2
          rw [hend, ← List.replicate_succ'] at ho8
          repeat (first | refine VC.seq ?_ | refine VC.block ?_ | refine VC.skip ?_)
          refine VC.loud (Kept G3 []) [1, 6] rfl (by kernel_rfl) (Kept.of0 hm.drew) ?_
          replace hm := hm.drew
          refine VL.pure rfl rfl rfl (p_moveP rfl) ?_
          refine VL.call rfl rfl rfl (r_call1 Try.call9 rfl) (stage_c (T := T) hm.all (hm.plus_at 1 0 rfl)) ?_
          rintro _ w ⟨rfl, hm'⟩
          replace hm := hm.back0 hm'
          refine ⟨Kept.of0 hm, ?_⟩
          refine VL.pure rfl rfl rfl (p_eq rfl rfl) ?_
          refine VL.pure rfl rfl rfl (p_field (fo := 4) Try.underlying25 rfl Try.sizeOf23 rfl rfl rfl) ?_
          refine VL.read rfl rfl rfl (fun w' hw' => r_load (v := .slice _ _ _) Try.isAgg23 rfl (hw'.fix _ _ hb3) rfl) ?_
          refine VL.pure rfl rfl rfl (p_moveL rfl) ?_
          refine VL.call rfl rfl rfl (r_call2 Try.call13 rfl rfl) (all2_c (es := os) (ids := all) hm hn0 hes3 (by unfold maxLen; omega) hall) ?_
          rintro _ w ⟨rfl, hm⟩
          refine ⟨Kept.of0 hm, ?_⟩
          refine VL.pure rfl rfl rfl (p_neB Try.underlying4 rfl rfl) ?_
          refine VL.nil ?_
          repeat (first | refine VC.seq ?_ | refine VC.block ?_ | refine VC.skip ?_)
          refine VC.condF rfl (end_eq (hend.trans hst)) ?_
          repeat (first | refine VC.seq ?_ | refine VC.block ?_ | refine VC.skip ?_)
          repeat (first | refine VC.seq ?_ | refine VC.block ?_ | refine VC.skip ?_)
          refine VC.region ?_
          refine VR.pure rfl rfl (p_moveI rfl) ?_
          refine VR.pure rfl rfl (p_add64 rfl rfl (by omega)) ?_
          refine VR.pure rfl rfl (p_assignI rfl) ?_
          refine VR.nil ?_
          exact ⟨(way + 1, A8, c8, L8), ⟨rfl, rfl, rfl, rfl, rfl, rfl, trivial⟩, ⟨by show way + 1 ≤ 2; omega, G3, hu.trans (hu2.trans hu3), hm.pop2, ho8⟩, by show 2 - (way + 1) < 2 - way; omega⟩
  · repeat (first | refine VC.seq ?_ | refine VC.block ?_ | refine VC.skip ?_)
    refine VC.exit ?_
    obtain rfl : way = 2 := by omega
    obtain ⟨G9, hu9, hm, h9⟩ := hm.freeze
    obtain ⟨b9, o9, bl9, T9, f9, rfl, hb9, hc9⟩ := Row.get (ho9.row1 h9) (by decide)
    repeat (first | refine VC.seq ?_ | refine VC.block ?_ | refine VC.skip ?_)
    refine VC.loud (Kept G9 []) [] rfl (by kernel_rfl) (Kept.of0 hm.drew) ?_
    replace hm := hm.drew
    refine VL.pure rfl rfl rfl (p_moveL rfl) ?_
    refine VL.pure rfl rfl rfl (p_idx1 (j := 0) Try.underlying28 Try.sizeOf32 rfl rfl (by decide : 0 < 2)) ?_
    refine VL.read rfl rfl rfl (fun w' hw' => r_load (v := .int _ _) Try.isAgg32 rfl (hw'.fix _ _ hb9) (hc9 0 (by decide))) ?_
    refine VL.pure rfl rfl rfl (p_moveL rfl) ?_
    refine VL.pure rfl rfl rfl (p_idx1 (j := 1) Try.underlying28 Try.sizeOf32 rfl rfl (by decide : 1 < 2)) ?_
    refine VL.read rfl rfl rfl (fun w' hw' => r_load (v := .int _ _) Try.isAgg32 rfl (hw'.fix _ _ hb9) (hc9 1 (by decide))) ?_
    refine VL.pure rfl rfl rfl (p_eq rfl rfl) ?_
    refine VL.pure rfl rfl rfl (p_assignB rfl) ?_
    refine VL.nil ?_
    repeat (first | refine VC.seq ?_ | refine VC.block ?_ | refine VC.skip ?_)
    refine VC.ret ⟨_, ResOf.r1 (v := .bool _) rfl rfl, ?_⟩
    exact ⟨congrArg Value.bool (decide_eq_true rfl), ((hm.shrink hu9).shrink hu).shrink hu0⟩
theorem cells_i3 : Try.prog.cellsOf 3 = 1 := by kernel_rfl
theorem cells_z3 : Try.prog.cellsOf 22 = 1 := by kernel_rfl
theorem cells_e3 : Try.prog.cellsOf 23 = 1 := by kernel_rfl
theorem cells_b3 : Try.prog.cellsOf 25 = 5 := by kernel_rfl
theorem open_begin {H : Type} {enc : TypeId × Value → H} {W : World} {v : Value} {d : DataW H} {ps : List MemPlace} {r : Reach} {base : Nat} (hv : Value.okWide Try.prog W r base 25 v)
    (h : DataW.Trod enc Try.prog W 0 (fun _ => true) true 25 v d ps) (hw : Light Try.prog 25 d) :
    ∃ id ac cu la A n c es, v = .agg #[.int .i64 id, .int .i64 ac, .int .i64 cu, .int .i64 la, .slice A n c] ∧ n ≤ c ∧ c ≤ maxLen ∧ ERow (Env.of W).heap A n es ∧ ∀ e ∈ es, e.c * 32 ≤ reachBytes := by
  obtain ⟨cs, rfl, hs⟩ := okWide_struct Try.underlying25 hv
  obtain ⟨fuel, hf0⟩ := h
  obtain ⟨xs, k, _, hd, hl, hxl, hf⟩ := DataW.trod_struct Try.underlying25 hf0
  clear hf0
  obtain ⟨rfl, _⟩ := Prod.mk.inj hd
  replace hw := Light.struct Try.underlying25 hw
  replace hl : cs.toList.length = 5 := by rw [← cells_b3]; exact hl
  have hxl' : xs.length = 5 := hxl
  clear hd
  match xs, hxl' with
  | [x0, x1, x2, x3, x4], _ =>
    have h0 : DataW.trod enc Try.prog W 0 (fun _ => true) true k 3 ((cs.toList.drop 0).take (Try.prog.cellsOf 3)) = some x0 := hf 0 _ rfl
    have h1 : DataW.trod enc Try.prog W 0 (fun _ => true) true k 3 ((cs.toList.drop 1).take (Try.prog.cellsOf 3)) = some x1 := hf 1 _ rfl
    have h2 : DataW.trod enc Try.prog W 0 (fun _ => true) true k 3 ((cs.toList.drop 2).take (Try.prog.cellsOf 3)) = some x2 := hf 2 _ rfl
    have h3 : DataW.trod enc Try.prog W 0 (fun _ => true) true k 22 ((cs.toList.drop 3).take (Try.prog.cellsOf 22)) = some x3 := hf 3 _ rfl
    have h4 : DataW.trod enc Try.prog W 0 (fun _ => true) true k 23 ((cs.toList.drop 4).take (Try.prog.cellsOf 23)) = some x4 := hf 4 _ rfl
    rw [cells_i3] at h0 h1 h2
    rw [cells_z3] at h3
    rw [cells_e3] at h4
    obtain ⟨n0, e0, _⟩ := DataW.trod_int (x := x0) Try.underlying3 h0
    obtain ⟨n1, e1, _⟩ := DataW.trod_int (x := x1) Try.underlying3 h1
    obtain ⟨n2, e2, _⟩ := DataW.trod_int (x := x2) Try.underlying3 h2
    obtain ⟨n3, e3, _⟩ := DataW.trod_int (x := x3) Try.underlying22 h3
    obtain ⟨A, n, c, es, e4, g1, g2, _, g4, g5, _⟩ := open_rows (cells := En.cells) (Q := fun e => EnOk (Env.of W).heap e ∧ e.c * 32 ≤ reachBytes) Try.underlying23 cells_En (by decide) En.len open_ens (y := x4) h4 hw.cons.2.cons.2.cons.2.cons.2.cons.1
    refine ⟨n0, n1, n2, n3, A, n, c, es, ?_, g1, g2, ⟨g4, fun e he => (g5 e he).1⟩, fun e he => (g5 e he).2⟩
    obtain ⟨l, hcl⟩ : ∃ l, l = cs.toList := ⟨_, rfl⟩
    rw [← hcl] at e0 e1 e2 e3 e4 hl
    match l, hl with
    | [a0, a1, a2, a3, a4], _ =>
      simp only [List.drop_zero, List.drop_succ_cons, List.take_succ_cons, List.take_zero, List.cons.injEq, and_true] at e0 e1 e2 e3 e4
      subst e0 e1 e2 e3 e4
      show Value.agg cs = .agg (List.toArray _)
      rw [hcl]
end Go.Bd
namespace Go.Proofs.Ytjnplhmhkindpaa
open Go.Bd Go.ChangeShapes Go.WideShapes

set_option maxRecDepth 100000 in
theorem orders_lifted (os : Os) (started : os.Started) (H : Type) (enc : TypeId × Value → H) :
    ReturnsInHanded {} Try.checked os 3 .any (Rows.leadOrdersSpec.pre6 enc Try.prog Try.f3 Rows.leadOrdersRow.domain false) (Rows.leadOrdersSpec.post enc Try.prog Try.f3 false true false false) := by
  refine law_frame (C := Try.checked) (tb := 4) (by kernel_rfl) (by kernel_rfl) started (by kernel_rfl) Try.func3 rfl rfl Try.underlying4 (by kernel_rfl) ?_
    (ChangeSpec.witness6 (enc := enc) (C := Try.checked) false ⟨#[], #[.agg #[.int .i64 0, .int .i64 0, .int .i64 0, .int .i64 0, .slice none 0 0], .slice none 0 0, .slice none 0 0, .slice none 0 0], []⟩ 8 (by kernel_rfl) (by kernel_rfl) (by kernel_rfl) (by kernel_rfl)) ?_
  · intro ds hl
    match ds, hl with
    | [d1, d2, d3, d4], _ => rfl
  · intro W base args ds p hval hA hwt
    replace hA : DataW.TrodAll enc Try.prog W 0 (fun _ => true) true Try.f3.params.toList args.toList ds p := hA
    rw [Try.params3] at hA hval
    replace hwt : (DataW.weightsEach Try.prog [25, 26, 26, 26] ds).all (· ≤ reachBytes) = true := hwt
    obtain ⟨v0, vs0, d0, ds0, p0, q0, hargs, rfl, rfl, h0, r0⟩ := trodAll_cons hA
    obtain ⟨v1, vs1, d1, ds1, p1, q1, rfl, rfl, rfl, h1, r1⟩ := trodAll_cons r0
    obtain ⟨v2, vs2, d2, ds2, p2, q2, rfl, rfl, rfl, h2, r2⟩ := trodAll_cons r1
    obtain ⟨v3, vs3, d3, ds3, p3, q3, rfl, rfl, rfl, h3, r3⟩ := trodAll_cons r2
    obtain ⟨rfl, rfl, rfl⟩ := trodAll_nil r3
    obtain rfl : args = #[v0, v1, v2, v3] := by cases args; simp_all
    obtain ⟨A1, n1, c1, xs1, rfl, hn1, hc1, hr1, w1, hd1⟩ := arg_ints Try.underlying26 Try.underlying3 (by kernel_rfl) (hval 1 26 v1 rfl rfl) h1
    obtain ⟨A2, n2, c2, xs2, rfl, hn2, hc2, hr2, w2, hd2⟩ := arg_ints Try.underlying26 Try.underlying3 (by kernel_rfl) (hval 2 26 v2 rfl rfl) h2
    obtain ⟨A3, n3, c3, xs3, rfl, hn3, hc3, hr3, w3, hd3⟩ := arg_ints Try.underlying26 Try.underlying3 (by kernel_rfl) (hval 3 26 v3 rfl rfl) h3
    obtain ⟨id, ac, cu, la, A, n, c, es, rfl, hn, hc, hes, hsm⟩ := open_begin (hval 0 25 v0 rfl rfl) h0 (LightAll.cons hwt).1
    exact lead_orders_c hes (Nat.le_trans hn hc) (fun e he => by have h1 := hsm e he; have h3 := (hes.each e he).2.1; unfold reachBytes at h1; omega) hr1 hr2 hr3 (Mem.of W)

theorem orders : Rows.LeadOrdersSaid :=
  OpenClaim.holds_of_wide 3 Try.f3 rfl rfl rfl rfl rfl rfl rfl ⟨rfl, rfl, rfl, rfl, rfl⟩ rfl rfl rfl rfl rfl (by kernel_rfl) Try.func3 (by kernel_rfl)
    (of_decide_eq_true (by kernel_rfl)) (by unfold Func.isWrapper; rw [if_neg (of_decide_eq_false (by kernel_rfl))]; exact ⟨rfl, rfl⟩)
    (fun os started H enc _ => orders_lifted os started H enc)
end Go.Proofs.Ytjnplhmhkindpaa
