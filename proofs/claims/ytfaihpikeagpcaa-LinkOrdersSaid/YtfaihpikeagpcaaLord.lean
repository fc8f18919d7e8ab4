/- LinkOrders: what each side was told is the beginning of what the other one sent, in order, each once; and if both go on, all of it comes. Conditions: none. -/
import Derived.Test.Ytfaihpikeagpcaa10s
import Derived.Test.YtfaihpikeagpcaaFrame
namespace Go.Bd
open Go.Proofs
set_option linter.unusedVariables false
set_option linter.unusedSimpArgs false
set_option maxRecDepth 20000

theorem LkAt.small {H : Nat → Option Obj} {k : Lk} {cs : Array Value} {L : Blks} (h : LkAt H k cs L) : k.out.load.length ≤ 1048476 := by
  obtain ⟨A, n, c, ws, _, _, hws, hwo⟩ := h
  unfold Lk.out
  split
  · simp
  · cases hc : k.wait with
    | nil => simp
    | cons l r =>
      show (if 0 < k.peer then _ else _ : Pk).load.length ≤ _
      split
      · have hl : l ∈ ws.map Bs.bs := by rw [hws, hc]; exact .head _
        obtain ⟨b, hb, rfl⟩ := List.mem_map.1 hl
        have h1 := hwo b hb
        show b.bs.length ≤ _
        rw [h1.1.len]
        exact h1.2
      · simp
theorem Inv.ok {a b : Sd} {i j : Nat} (h : Inv a b) (ha : a.sent.length ≤ i) (hb : b.sent.length ≤ j) (hi : i < 1000) (hj : j < 1000) : a.k.ok ∧ a.k.there ∧ a.k.wait.length ≤ a.sent.length := by
  have h1 := h.1.acked0
  have h2 := h.1.got0
  have h3 := h.1.le1
  have h4 := h.2.len
  have h5 := h.1.len
  refine ⟨?_, h.1.pos, ?_⟩
  · unfold Lk.ok
    omega
  · rw [h.1.wait, List.length_drop]
    omega
theorem send_short {k : Lk} {l : List Int} (ht : k.there) (hl : l.length = 3) (hw : k.wait.length < 1000) : k.send l = (0, { k with wait := k.wait ++ [l] }) := by
  unfold Lk.send
  rw [if_neg (not_not_intro ht), if_neg (by omega), if_neg (by omega), if_neg (by omega)]

set_option maxHeartbeats 16000000 in
theorem link_orders_c {F : Env} {w : World} {A : Option Addr} {n c : Nat} {xs : List Int} (hm : Mem F w []) (hr : Row F.heap A n (xs.map (Value.int .i64))) :
    Calls Try.prog 4 #[.slice A n c] w (Ret fun v w' => v = .bool true ∧ Mem F w' []) := by
  have hlen : xs.length = n := by have := hr.len; rwa [List.length_map] at this
  refine Calls.of_vc Try.func4 rfl Try.ntmps4 rfl ?_
  repeat (first | refine VC.seq ?_ | refine VC.block ?_ | refine VC.skip ?_)
  refine VC.region ?_
  refine VR.pure rfl rfl (p_assignB rfl) ?_
  refine VR.nil ?_
  repeat (first | refine VC.seq ?_ | refine VC.block ?_ | refine VC.skip ?_)
  refine VC.region ?_
  refine VR.call rfl rfl (r_call0 Try.call8) (awake_c hm) ?_
  rintro _ w ⟨rfl, hm⟩
  refine VR.pure rfl rfl (p_not rfl) ?_
  refine VR.nil ?_
  repeat (first | refine VC.seq ?_ | refine VC.block ?_ | refine VC.skip ?_)
  refine VC.condF rfl rfl ?_
  repeat (first | refine VC.seq ?_ | refine VC.block ?_ | refine VC.skip ?_)
  refine VC.region ?_
  refine VR.pure rfl rfl (p_moveL rfl) ?_
  refine VR.pure rfl rfl (p_len Try.underlying42 rfl) ?_
  refine VR.pure rfl rfl (p_gt rfl rfl) ?_
  refine VR.nil ?_
  repeat (first | refine VC.seq ?_ | refine VC.block ?_ | refine VC.skip ?_)
  refine VC.condD rfl (fun h300 => ?_) (fun h300 => ?_)
  · repeat (first | refine VC.seq ?_ | refine VC.block ?_ | refine VC.skip ?_)
    refine VC.region ?_
    refine VR.pure rfl rfl (p_assignB rfl) ?_
    refine VR.nil ?_
    repeat (first | refine VC.seq ?_ | refine VC.block ?_ | refine VC.skip ?_)
    refine VC.ret ⟨_, ResOf.r1 (v := .bool _) rfl rfl, ?_⟩
    exact ⟨rfl, hm⟩
  repeat (first | refine VC.seq ?_ | refine VC.block ?_ | refine VC.skip ?_)
  refine VC.region ?_
  refine VR.call rfl rfl (r_call1 Try.call15 rfl) (new_ok hm (by decide)) ?_
  rintro _ w ⟨l0, rfl, hm⟩
  refine VR.pure rfl rfl (p_build (vs := [(0, .pointer _)]) bld46_0 rfl) ?_
  refine VR.new hm rfl rfl (n_boxG rfl) ?_
  intro g0 w hm
  refine VR.call rfl rfl (r_call1 Try.call15 rfl) (new_ok hm (by decide)) ?_
  rintro _ w ⟨l1, rfl, hm⟩
  refine VR.pure rfl rfl (p_build (vs := [(0, .pointer _)]) bld46_0 rfl) ?_
  refine VR.new hm rfl rfl (n_boxG rfl) ?_
  intro g1 w hm
  refine VR.new hm rfl rfl (n_buildSlice1 (vs := [.pointer _, .pointer _]) Try.underlying47 inf43 rfl rfl rfl rfl rfl rfl rfl) ?_
  intro bs w hm
  refine VR.pure rfl rfl (p_assignL rfl) ?_
  refine VR.nil ?_
  replace hm : Mem F w ([(bs, .cells #[.pointer (some ⟨g0, 0, none⟩), .pointer (some ⟨g1, 0, none⟩)] 43 (0, 0))] ::
      [(g1, .cells #[.pointer (some ⟨l1, 0, none⟩), .int .i64 0, .slice none 0 0, .slice none 0 0, .slice none 0 0] 46 (0, 0))] :: [(l1, .cells #[.int .i64 2, .int .i64 0, .int .i64 0, .int .i64 0, .slice none 0 0] 33 (0, 0))] :: [] ::
      [(g0, .cells #[.pointer (some ⟨l0, 0, none⟩), .int .i64 0, .slice none 0 0, .slice none 0 0, .slice none 0 0] 46 (0, 0))] :: [(l0, .cells #[.int .i64 4, .int .i64 0, .int .i64 0, .int .i64 0, .slice none 0 0] 33 (0, 0))] :: [] :: []) := hm
  obtain ⟨G0, hu0, hm, hG0⟩ := hm.freeze
  have hbs := hG0 _ (.head _)
  have htwo : Two G0 g1 l1 g0 l0 ⟨lk0 2, [], [], []⟩ ⟨lk0 4, [], [], []⟩ w :=
    ⟨G0, _, _, [], [], [], [], _, _, [], [], [], [], Env.under_refl _, ⟨LkAt.new _ 2, 0, none, 0, 0, none, 0, 0, none, 0, 0, rfl, OL.nil _, OL.nil _, OP.nil _⟩, ⟨LkAt.new _ 4, 0, none, 0, 0, none, 0, 0, none, 0, 0, rfl, OL.nil _, OL.nil _, OP.nil _⟩, hm.flat rfl⟩
  replace htwo := htwo.swap
  clear hm hG0
  replace hr := hr.mono hu0.heap
  have hinv : Inv ⟨lk0 4, [], [], []⟩ ⟨lk0 2, [], [], []⟩ := ⟨Half.new (by decide), Half.new (by decide)⟩
  repeat (first | refine VC.seq ?_ | refine VC.block ?_ | refine VC.skip ?_)
  refine VC.region ?_
  refine VR.pure rfl rfl (p_assignI rfl) ?_
  refine VR.nil ?_
  repeat (first | refine VC.seq ?_ | refine VC.block ?_ | refine VC.skip ?_)
  refine VC.loop (σ := Nat) (fun i => [(0, .slice A n c), (3, .slice (some ⟨bs, 0, none⟩) 2 2), (4, .int .i64 i)])
    (fun i w => i ≤ n ∧ ∃ a b, Two G0 g0 l0 g1 l1 a b w ∧ Inv a b ∧ Cnt a i ∧ Cnt b i) (fun i => n - i) 0 ⟨rfl, rfl, rfl, trivial⟩ ⟨by omega, _, _, htwo, hinv, Cnt.zero _, Cnt.zero _⟩ ?_
  clear htwo hinv
  rintro i A' w ⟨hi, a0, b0, htwo, hinv, hca, hcb⟩
  repeat (first | refine VC.seq ?_ | refine VC.block ?_ | refine VC.skip ?_)
  refine VC.region ?_
  refine VR.pure rfl rfl (p_moveI rfl) ?_
  refine VR.pure rfl rfl (p_moveL rfl) ?_
  refine VR.pure rfl rfl (p_len Try.underlying42 rfl) ?_
  refine VR.pure rfl rfl (p_lt rfl rfl) ?_
  refine VR.nil ?_
  repeat (first | refine VC.seq ?_ | refine VC.block ?_ | refine VC.skip ?_)
  refine VC.condD rfl (fun h => ?_) (fun h => ?_)
  · have hi' : i < n := by omega
    obtain ⟨x, hx, _⟩ := get_of (xs := xs) (k := i) (by omega)
    obtain ⟨b, off, blk, T, fr, rfl, hb, hc⟩ := Row.get hr (by omega)
    have hcx := (hc i hi').trans (ints_at hx)
    obtain ⟨q, hq, hq1⟩ : ∃ q : Nat, x % 2 = q ∧ q ≤ 1 := ⟨(x % 2).toNat, by omega, by omega⟩
    obtain ⟨gm, lm, go, lo, hgm, hgo, hsel, a, b1, htwo, hinv, hca, hcb⟩ : ∃ gm lm go lo, (#[Value.pointer (some ⟨g0, 0, none⟩), .pointer (some ⟨g1, 0, none⟩)])[0 + q]? = some (.pointer (some ⟨gm, 0, none⟩)) ∧
        (#[Value.pointer (some ⟨g0, 0, none⟩), .pointer (some ⟨g1, 0, none⟩)])[0 + (1 - q)]? = some (.pointer (some ⟨go, 0, none⟩)) ∧ ((gm, lm, go, lo) = (g0, l0, g1, l1) ∨ (gm, lm, go, lo) = (g1, l1, g0, l0)) ∧
        ∃ a b, Two G0 gm lm go lo a b w ∧ Inv a b ∧ Cnt a i ∧ Cnt b i := by
      rcases Nat.le_one_iff_eq_zero_or_eq_one.1 hq1 with rfl | rfl
      · exact ⟨g0, l0, g1, l1, rfl, rfl, .inl rfl, a0, b0, htwo, hinv, hca, hcb⟩
      · exact ⟨g1, l1, g0, l0, rfl, rfl, .inr rfl, b0, a0, htwo.swap, hinv.symm, hcb, hca⟩
    have hsa := hca.sent
    have hsb := hcb.sent
    obtain ⟨G, cs, cl, W, S, T', O, ds, dl, Wo, So, To, Oo, hu, ⟨hk, inc, A1, n1, c1, A2, n2, c2, A3, n3, c3, rfl, hS, hT, hO⟩, ⟨hk', inc', A1', n1', c1', A2', n2', c2', A3', n3', c3', rfl, hS', hT', hO'⟩, hm⟩ := htwo
    obtain ⟨hok, ht, hwl⟩ := hinv.ok hsa hsb (by omega) (by omega)
    repeat (first | refine VC.seq ?_ | refine VC.block ?_ | refine VC.skip ?_)
    refine VC.region ?_
    refine VR.pure rfl rfl (p_moveL rfl) ?_
    refine VR.pure rfl rfl (p_moveL rfl) ?_
    refine VR.pure rfl rfl (p_moveI rfl) ?_
    refine VR.pure rfl rfl (p_idx1 Try.underlying42 Try.sizeOf3 rfl rfl hi') ?_
    refine VR.val rfl rfl (r_load (v := .int _ _) Try.isAgg3 rfl (hm.fix _ _ (hu.heap _ _ hb)) hcx) ?_
    refine VR.pure rfl rfl (p_and1E rfl hq) ?_
    refine VR.pure rfl rfl (p_idx1 Try.underlying47 Try.sizeOf43 rfl rfl (by omega : q < 2)) ?_
    refine VR.val rfl rfl (r_load (v := .pointer _) Try.isAgg43 rfl (hm.fix _ _ (hu.heap _ _ hbs)) hgm) ?_
    refine VR.pure rfl rfl (p_assignP rfl) ?_
    refine VR.nil ?_
    repeat (first | refine VC.seq ?_ | refine VC.block ?_ | refine VC.skip ?_)
    refine VC.region ?_
    refine VR.pure rfl rfl (p_moveL rfl) ?_
    refine VR.pure rfl rfl (p_moveL rfl) ?_
    refine VR.pure rfl rfl (p_moveI rfl) ?_
    refine VR.pure rfl rfl (p_idx1 Try.underlying42 Try.sizeOf3 rfl rfl hi') ?_
    refine VR.val rfl rfl (r_load (v := .int _ _) Try.isAgg3 rfl (hm.fix _ _ (hu.heap _ _ hb)) hcx) ?_
    refine VR.pure rfl rfl (p_and1E rfl hq) ?_
    refine VR.pure rfl rfl (p_sub64E (r := ((1 - q : Nat) : Int)) rfl rfl (by omega) (by omega)) ?_
    refine VR.pure rfl rfl (p_idx1 Try.underlying47 Try.sizeOf43 rfl rfl (by omega : 1 - q < 2)) ?_
    refine VR.val rfl rfl (r_load (v := .pointer _) Try.isAgg43 rfl (hm.fix _ _ (hu.heap _ _ hbs)) hgo) ?_
    refine VR.pure rfl rfl (p_assignP rfl) ?_
    refine VR.nil ?_
    repeat (first | refine VC.seq ?_ | refine VC.block ?_ | refine VC.skip ?_)
    refine VC.region ?_
    refine VR.pure rfl rfl (p_moveL rfl) ?_
    refine VR.pure rfl rfl (p_moveI rfl) ?_
    refine VR.pure rfl rfl (p_idx1 Try.underlying42 Try.sizeOf3 rfl rfl hi') ?_
    refine VR.val rfl rfl (r_load (v := .int _ _) Try.isAgg3 rfl (hm.fix _ _ (hu.heap _ _ hb)) hcx) ?_
    refine VR.pure rfl rfl (p_shr rfl rfl (by decide)) ?_
    refine VR.call rfl rfl (r_call2 Try.call16 rfl rfl) (pick_c (by omega)) ?_
    rintro _ _ ⟨⟨kk, hkk, rfl⟩, rfl⟩
    refine VR.pure rfl rfl (p_assignI rfl) ?_
    refine VR.nil ?_
    repeat (first | refine VC.seq ?_ | refine VC.block ?_ | refine VC.skip ?_)
    refine VC.region ?_
    refine VR.pure rfl rfl (p_moveI rfl) ?_
    refine VR.pure rfl rfl (p_rem64 rfl rfl (by omega) (by omega)) ?_
    refine VR.nil ?_
    refine VC.meet (σ := Unit) (fun _ => [(0, .slice (some ⟨b, off, none⟩) n c), (3, .slice (some ⟨bs, 0, none⟩) 2 2), (4, .int .i64 i), (5, .pointer (some ⟨gm, 0, none⟩)), (6, .pointer (some ⟨go, 0, none⟩))])
      (fun _ w => ∃ a b, Two G0 gm lm go lo a b w ∧ Inv a b ∧ Cnt a (i + 1) ∧ Cnt b (i + 1)) ?_ ?_
    · refine VC.block ?_
      repeat (first | refine VC.seq ?_ | refine VC.block ?_ | refine VC.skip ?_)
      refine VC.region ?_
      refine VR.pure rfl rfl (p_eq rfl rfl) ?_
      refine VR.pure rfl rfl (p_assignB rfl) ?_
      refine VR.nil ?_
      repeat (first | refine VC.seq ?_ | refine VC.block ?_ | refine VC.skip ?_)
      refine VC.condD rfl (fun hq0 => ?_) (fun hq0 => ?_)
      · repeat (first | refine VC.seq ?_ | refine VC.block ?_ | refine VC.skip ?_)
        refine VC.region ?_
        refine VR.pure rfl rfl (p_moveI rfl) ?_
        refine VR.pure rfl rfl (p_conv Try.underlying3 Try.underlying5 rfl) ?_
        refine VR.pure rfl rfl (p_moveI rfl) ?_
        refine VR.pure rfl rfl (p_shr rfl rfl (by decide)) ?_
        refine VR.pure rfl rfl (p_conv Try.underlying3 Try.underlying5 rfl) ?_
        refine VR.pure rfl rfl (p_moveI rfl) ?_
        refine VR.pure rfl rfl (p_conv Try.underlying3 Try.underlying5 rfl) ?_
        refine VR.new hm rfl rfl (n_buildSlice1 (vs := [.int _ _, .int _ _, .int _ _]) Try.underlying22 inf5 rfl rfl rfl rfl rfl rfl rfl) ?_
        intro b20 w hm
        refine VR.pure rfl rfl (p_assignL rfl) ?_
        refine VR.nil ?_
        obtain ⟨G1, hu1, hm, hG1⟩ := hm.freeze
        obtain ⟨l, hl3, hrow⟩ : ∃ l : List Int, l.length = 3 ∧ BRow G1.heap (some ⟨b20, 0, none⟩) 3 l := ⟨[_, _, _], rfl, Row.lit (cs := [.int .u8 _, .int .u8 _, .int .u8 _]) (hG1 _ (.head _))⟩
        have hm1 := ((hm.pull 2 rfl).pull 2 rfl)
        replace hm : Mem G1 _ ([(lm, .cells cl 33 (0, 0))] :: W :: [(gm, .cells #[.pointer (some ⟨lm, 0, none⟩), .int .i64 inc, .slice A1 n1 c1, .slice A2 n2 c2, .slice A3 n3 c3] 46 (0, 0))] :: S :: T' :: O ::
          [(go, .cells #[.pointer (some ⟨lo, 0, none⟩), .int .i64 inc', .slice A1' n1' c1', .slice A2' n2' c2', .slice A3' n3' c3'] 46 (0, 0))] :: [(lo, .cells dl 33 (0, 0))] :: Wo :: So :: To :: Oo :: []) := hm1
        clear hm1
        have es := send_short (l := l) ht hl3 (by omega)
        have hcon := send_c hm (hk.mono hu1.heap) hrow (d := 3)
        rw [es] at hcon
        repeat (first | refine VC.seq ?_ | refine VC.block ?_ | refine VC.skip ?_)
        refine VC.region ?_
        refine VR.pure rfl rfl (p_moveP rfl) ?_
        refine VR.pure rfl rfl (p_nilCheck rfl) ?_
        refine VR.pure rfl rfl (p_field (fo := 0) Try.underlying46 rfl Try.sizeOf26 rfl rfl rfl) ?_
        refine VR.val rfl rfl (r_load (v := .pointer _) Try.isAgg26 rfl (hm.at_ 2 0 rfl) rfl) ?_
        refine VR.pure rfl rfl (p_moveL rfl) ?_
        refine VR.call rfl rfl (r_call2 Try.call10 rfl rfl) (hcon) ?_
        rintro _ w ⟨G2, cl2, W2, rfl, hu2, hk2, hm⟩
        refine VR.pure rfl rfl (p_ne rfl rfl) ?_
        refine VR.nil ?_
        repeat (first | refine VC.seq ?_ | refine VC.block ?_ | refine VC.skip ?_)
        refine VC.condF rfl rfl ?_
        have hS0 := hS
        obtain ⟨ws, hS1, hS2, hS3⟩ := hS
        have hn1 : n1 ≤ 300 := by have := hS0.len; omega
        repeat (first | refine VC.seq ?_ | refine VC.block ?_ | refine VC.skip ?_)
        refine VC.region ?_
        refine VR.pure rfl rfl (p_moveP rfl) ?_
        refine VR.pure rfl rfl (p_moveP rfl) ?_
        refine VR.pure rfl rfl (p_nilCheck rfl) ?_
        refine VR.pure rfl rfl (p_field (fo := 2) Try.underlying46 rfl Try.sizeOf29 rfl rfl rfl) ?_
        refine VR.val rfl rfl (r_load (v := .slice _ _ _) Try.isAgg29 rfl (hm.at_ 2 0 rfl) rfl) ?_
        refine VR.pure rfl rfl (p_moveL rfl) ?_
        refine VR.new hm rfl rfl (n_buildSlice1 (vs := [.slice _ _ _]) Try.underlying29 inf22 rfl rfl rfl rfl rfl rfl rfl) ?_
        intro b23 w hm
        replace hm := (hm.pull 4 rfl)
        refine VR.append (s := 1) (bytes := 24) Try.underlying29 inf22 rfl rfl rfl rfl rfl rfl rfl rfl rfl hm hS1 (Row.lit (cs := [.slice (some ⟨b20, 0, none⟩) 3 3]) (hm.at_ 1 0 rfl)) (by simp [Value.oneCell']) rfl ⟨by unfold maxLen; omega, by omega⟩ ?_
        intro A9 c9 w S9 hS9 hm
        refine VR.pure rfl rfl (p_nilCheck rfl) ?_
        refine VR.pure rfl rfl (p_field (fo := 2) Try.underlying46 rfl Try.sizeOf29 rfl rfl rfl) ?_
        refine VR.store (cs' := #[.pointer (some ⟨lm, 0, none⟩), .int .i64 inc, .slice A9 (n1 + 1) c9, .slice A2 n2 c2, .slice A3 n3 c3]) (v := .slice _ _ _) Try.sizeOf29 rfl rfl rfl rfl rfl hm 4 0 rfl (Nat.ble_eq.mp rfl) rfl ?_
        intro w hm
        refine VR.nil ?_
        have hu12 := (hu1.trans hu2).heap
        refine ⟨(), ⟨rfl, rfl, rfl, rfl, rfl, trivial⟩, a.wrote l, b1, ⟨G2, _, cl2, W2, S9, T', O, _, dl, Wo, So, To, Oo, (hu.trans hu1).trans hu2,
          ⟨hk2, inc, A9, n1 + 1, c9, A2, n2, c2, A3, n3, c3, rfl, OL.push hS2 (fun b hb => ⟨(hS3 b hb).1.mono hu12, (hS3 b hb).2⟩) hS9 (hrow.mono hu2.heap) (by unfold maxLen; omega), hT.mono hu12, hO.mono hu12⟩,
          ⟨hk'.mono hu12, inc', A1', n1', c1', A2', n2', c2', A3', n3', c3', rfl, hS'.mono hu12, hT'.mono hu12, hO'.mono hu12⟩, (((hm.pop2.pull 2 rfl).pull 2 rfl).pull 3 rfl)⟩, hinv.wrote l, hca.wrote hl3, hcb.up⟩
      · repeat (first | refine VC.seq ?_ | refine VC.block ?_ | refine VC.skip ?_)
        refine VC.region ?_
        refine VR.pure rfl rfl (p_eq rfl rfl) ?_
        refine VR.pure rfl rfl (p_assignB rfl) ?_
        refine VR.nil ?_
        repeat (first | refine VC.seq ?_ | refine VC.block ?_ | refine VC.skip ?_)
        refine VC.condD rfl (fun hq1 => ?_) (fun hq1 => ?_)
        · have hO0 := hO
          have hkm := hk.small
          obtain ⟨ps, hO1, hO2, hO3⟩ := hO
          have hm1 := ((hm.pull 2 rfl).pull 2 rfl)
          replace hm : Mem G _ ([(lm, .cells cl 33 (0, 0))] :: W :: [(gm, .cells #[.pointer (some ⟨lm, 0, none⟩), .int .i64 inc, .slice A1 n1 c1, .slice A2 n2 c2, .slice A3 n3 c3] 46 (0, 0))] :: S :: T' :: O ::
            [(go, .cells #[.pointer (some ⟨lo, 0, none⟩), .int .i64 inc', .slice A1' n1' c1', .slice A2' n2' c2', .slice A3' n3' c3'] 46 (0, 0))] :: [(lo, .cells dl 33 (0, 0))] :: Wo :: So :: To :: Oo :: []) := hm1
          clear hm1
          have hn3 : n3 ≤ 300 := by have := hO0.len; have := hca.out; omega
          repeat (first | refine VC.seq ?_ | refine VC.block ?_ | refine VC.skip ?_)
          refine VC.free (Kept F []) [4, 8, 9, 10, 11, 14] rfl (by kernel_rfl) (Kept.of0 ((hm.drew.shrink hu).shrink hu0)) ?_
          replace hm := hm.drew
          refine VD.pure 0 rfl (by kernel_rfl) rfl rfl (p_moveP rfl) ?_
          refine VD.pure 1 rfl (by kernel_rfl) rfl rfl (p_moveP rfl) ?_
          refine VD.pure 2 rfl (by kernel_rfl) rfl rfl (p_nilCheck rfl) ?_
          refine VD.pure 3 rfl (by kernel_rfl) rfl rfl (p_field (fo := 4) Try.underlying46 rfl Try.sizeOf44 rfl rfl rfl) ?_
          refine VD.pure 5 rfl (by kernel_rfl) rfl rfl (p_moveP rfl) ?_
          refine VD.pure 6 rfl (by kernel_rfl) rfl rfl (p_nilCheck rfl) ?_
          refine VD.pure 7 rfl (by kernel_rfl) rfl rfl (p_field (fo := 0) Try.underlying46 rfl Try.sizeOf26 rfl rfl rfl) ?_
          refine VD.turn2 4 8 (by kernel_rfl) ?_ ?_
          refine VDT.val rfl rfl rfl (r_load (v := .slice _ _ _) Try.isAgg44 rfl (hm.at_ 2 0 rfl) rfl) (Kept.of0 ((hm.shrink hu).shrink hu0)) ?_
          refine VD.turn1 8 (by kernel_rfl) ?_
          refine VDT.val rfl rfl rfl (r_load (v := .pointer _) Try.isAgg26 rfl (hm.at_ 2 0 rfl) rfl) (Kept.of0 ((hm.shrink hu).shrink hu0)) ?_
          refine VD.turn1 9 (by kernel_rfl) ?_
          refine VDT.call rfl rfl rfl (r_call1 Try.call14 rfl) (out_c hm hk hok) ?_
          rintro _ w ⟨A9, c9, M9, rfl, ho9, hm⟩
          refine ⟨Kept.of0 ((hm.shrink hu).shrink hu0), ?_⟩
          refine VD.turn1 10 (by kernel_rfl) ?_
          refine VDT.new hm rfl rfl rfl (n_buildSlice (vs := [.agg _]) Try.underlying44 inf24 rfl rfl rfl rfl rfl rfl) (fun b' w' hm' => Kept.of0 ((hm'.shrink hu).shrink hu0)) ?_
          intro b10 w hm
          replace hm := (hm.pull 7 rfl)
          refine VD.turn1 11 (by kernel_rfl) ?_
          refine VDT.append (s := 5) (bytes := 56) Try.underlying44 inf24 rfl rfl rfl rfl rfl rfl rfl rfl rfl rfl hm hO1 (Row.lit (cs := [.int .i64 a.k.out.from_, .int .i64 a.k.out.to, .int .i64 a.k.out.seq, .int .i64 a.k.out.ack, .slice A9 a.k.out.load.length c9]) (hm.at_ 1 0 rfl)) (by simp [Value.oneCell']) rfl ⟨by unfold maxLen; omega, by omega⟩ (fun A' c' w' L' ho' hm' => Kept.of0 ((hm'.shrink hu).shrink hu0)) ?_
          intro A8 c8 w O8 hO8 hm
          refine VD.pure 12 rfl (by kernel_rfl) rfl rfl (p_nilCheck rfl) ?_
          refine VD.pure 13 rfl (by kernel_rfl) rfl rfl (p_field (fo := 4) Try.underlying46 rfl Try.sizeOf44 rfl rfl rfl) ?_
          refine VD.turn1 14 (by kernel_rfl) ?_
          refine VDT.store (cs' := #[.pointer (some ⟨lm, 0, none⟩), .int .i64 inc, .slice A1 n1 c1, .slice A2 n2 c2, .slice A8 (n3 + 1) c8]) (v := .slice _ _ _) Try.sizeOf44 rfl rfl rfl rfl rfl rfl hm 5 0 rfl (Nat.ble_eq.mp rfl) rfl (fun w' hm' => Kept.of0 ((hm'.shrink hu).shrink hu0)) ?_
          intro w hm
          refine VD.nil (by kernel_rfl) rfl ?_
          rotate_left 1
          refine VDT.val rfl rfl rfl (r_load (v := .pointer _) Try.isAgg26 rfl (hm.at_ 2 0 rfl) rfl) (Kept.of0 ((hm.shrink hu).shrink hu0)) ?_
          refine VD.turn2 4 9 (by kernel_rfl) ?_ ?_
          refine VDT.val rfl rfl rfl (r_load (v := .slice _ _ _) Try.isAgg44 rfl (hm.at_ 2 0 rfl) rfl) (Kept.of0 ((hm.shrink hu).shrink hu0)) ?_
          refine VD.turn1 9 (by kernel_rfl) ?_
          refine VDT.call rfl rfl rfl (r_call1 Try.call14 rfl) (out_c hm hk hok) ?_
          rintro _ w ⟨A9, c9, M9, rfl, ho9, hm⟩
          refine ⟨Kept.of0 ((hm.shrink hu).shrink hu0), ?_⟩
          refine VD.turn1 10 (by kernel_rfl) ?_
          refine VDT.new hm rfl rfl rfl (n_buildSlice (vs := [.agg _]) Try.underlying44 inf24 rfl rfl rfl rfl rfl rfl) (fun b' w' hm' => Kept.of0 ((hm'.shrink hu).shrink hu0)) ?_
          intro b10 w hm
          replace hm := (hm.pull 7 rfl)
          refine VD.turn1 11 (by kernel_rfl) ?_
          refine VDT.append (s := 5) (bytes := 56) Try.underlying44 inf24 rfl rfl rfl rfl rfl rfl rfl rfl rfl rfl hm hO1 (Row.lit (cs := [.int .i64 a.k.out.from_, .int .i64 a.k.out.to, .int .i64 a.k.out.seq, .int .i64 a.k.out.ack, .slice A9 a.k.out.load.length c9]) (hm.at_ 1 0 rfl)) (by simp [Value.oneCell']) rfl ⟨by unfold maxLen; omega, by omega⟩ (fun A' c' w' L' ho' hm' => Kept.of0 ((hm'.shrink hu).shrink hu0)) ?_
          intro A8 c8 w O8 hO8 hm
          refine VD.pure 12 rfl (by kernel_rfl) rfl rfl (p_nilCheck rfl) ?_
          refine VD.pure 13 rfl (by kernel_rfl) rfl rfl (p_field (fo := 4) Try.underlying46 rfl Try.sizeOf44 rfl rfl rfl) ?_
          refine VD.turn1 14 (by kernel_rfl) ?_
          refine VDT.store (cs' := #[.pointer (some ⟨lm, 0, none⟩), .int .i64 inc, .slice A1 n1 c1, .slice A2 n2 c2, .slice A8 (n3 + 1) c8]) (v := .slice _ _ _) Try.sizeOf44 rfl rfl rfl rfl rfl rfl hm 5 0 rfl (Nat.ble_eq.mp rfl) rfl (fun w' hm' => Kept.of0 ((hm'.shrink hu).shrink hu0)) ?_
          intro w hm
          refine VD.nil (by kernel_rfl) rfl ?_
          rotate_left 1
          refine VDT.call rfl rfl rfl (r_call1 Try.call14 rfl) (out_c hm hk hok) ?_
          rintro _ w ⟨A9, c9, M9, rfl, ho9, hm⟩
          refine ⟨Kept.of0 ((hm.shrink hu).shrink hu0), ?_⟩
          refine VD.turn2 4 10 (by kernel_rfl) ?_ ?_
          refine VDT.val rfl rfl rfl (r_load (v := .slice _ _ _) Try.isAgg44 rfl (hm.at_ 3 0 rfl) rfl) (Kept.of0 ((hm.shrink hu).shrink hu0)) ?_
          refine VD.turn1 10 (by kernel_rfl) ?_
          refine VDT.new hm rfl rfl rfl (n_buildSlice (vs := [.agg _]) Try.underlying44 inf24 rfl rfl rfl rfl rfl rfl) (fun b' w' hm' => Kept.of0 ((hm'.shrink hu).shrink hu0)) ?_
          intro b10 w hm
          replace hm := (hm.pull 7 rfl)
          refine VD.turn1 11 (by kernel_rfl) ?_
          refine VDT.append (s := 5) (bytes := 56) Try.underlying44 inf24 rfl rfl rfl rfl rfl rfl rfl rfl rfl rfl hm hO1 (Row.lit (cs := [.int .i64 a.k.out.from_, .int .i64 a.k.out.to, .int .i64 a.k.out.seq, .int .i64 a.k.out.ack, .slice A9 a.k.out.load.length c9]) (hm.at_ 1 0 rfl)) (by simp [Value.oneCell']) rfl ⟨by unfold maxLen; omega, by omega⟩ (fun A' c' w' L' ho' hm' => Kept.of0 ((hm'.shrink hu).shrink hu0)) ?_
          intro A8 c8 w O8 hO8 hm
          refine VD.pure 12 rfl (by kernel_rfl) rfl rfl (p_nilCheck rfl) ?_
          refine VD.pure 13 rfl (by kernel_rfl) rfl rfl (p_field (fo := 4) Try.underlying46 rfl Try.sizeOf44 rfl rfl rfl) ?_
          refine VD.turn1 14 (by kernel_rfl) ?_
          refine VDT.store (cs' := #[.pointer (some ⟨lm, 0, none⟩), .int .i64 inc, .slice A1 n1 c1, .slice A2 n2 c2, .slice A8 (n3 + 1) c8]) (v := .slice _ _ _) Try.sizeOf44 rfl rfl rfl rfl rfl rfl hm 5 0 rfl (Nat.ble_eq.mp rfl) rfl (fun w' hm' => Kept.of0 ((hm'.shrink hu).shrink hu0)) ?_
          intro w hm
          refine VD.nil (by kernel_rfl) rfl ?_
          rotate_left 1
          refine VDT.new hm rfl rfl rfl (n_buildSlice (vs := [.agg _]) Try.underlying44 inf24 rfl rfl rfl rfl rfl rfl) (fun b' w' hm' => Kept.of0 ((hm'.shrink hu).shrink hu0)) ?_
          intro b10 w hm
          refine VD.turn1 4 (by kernel_rfl) ?_
          refine VDT.val rfl rfl rfl (r_load (v := .slice _ _ _) Try.isAgg44 rfl (hm.at_ 4 0 rfl) rfl) (Kept.of0 ((hm.shrink hu).shrink hu0)) ?_
          replace hm := (hm.pull 7 rfl)
          refine VD.turn1 11 (by kernel_rfl) ?_
          refine VDT.append (s := 5) (bytes := 56) Try.underlying44 inf24 rfl rfl rfl rfl rfl rfl rfl rfl rfl rfl hm hO1 (Row.lit (cs := [.int .i64 a.k.out.from_, .int .i64 a.k.out.to, .int .i64 a.k.out.seq, .int .i64 a.k.out.ack, .slice A9 a.k.out.load.length c9]) (hm.at_ 1 0 rfl)) (by simp [Value.oneCell']) rfl ⟨by unfold maxLen; omega, by omega⟩ (fun A' c' w' L' ho' hm' => Kept.of0 ((hm'.shrink hu).shrink hu0)) ?_
          intro A8 c8 w O8 hO8 hm
          refine VD.pure 12 rfl (by kernel_rfl) rfl rfl (p_nilCheck rfl) ?_
          refine VD.pure 13 rfl (by kernel_rfl) rfl rfl (p_field (fo := 4) Try.underlying46 rfl Try.sizeOf44 rfl rfl rfl) ?_
          refine VD.turn1 14 (by kernel_rfl) ?_
          refine VDT.store (cs' := #[.pointer (some ⟨lm, 0, none⟩), .int .i64 inc, .slice A1 n1 c1, .slice A2 n2 c2, .slice A8 (n3 + 1) c8]) (v := .slice _ _ _) Try.sizeOf44 rfl rfl rfl rfl rfl rfl hm 5 0 rfl (Nat.ble_eq.mp rfl) rfl (fun w' hm' => Kept.of0 ((hm'.shrink hu).shrink hu0)) ?_
          intro w hm
          refine VD.nil (by kernel_rfl) rfl ?_
          rotate_left 1
          all_goals
            obtain ⟨G1, hu1, hm, hG1⟩ := hm.pop2.swap.freeze
            exact ⟨(), ⟨rfl, rfl, rfl, rfl, rfl, trivial⟩, a.let_, b1, ⟨G1, _, cl, W, S, T', O8, _, dl, Wo, So, To, Oo, hu.trans hu1,
              ⟨hk.mono hu1.heap, inc, A1, n1, c1, A2, n2, c2, A8, n3 + 1, c8, rfl, hS.mono hu1.heap, hT.mono hu1.heap, OP.push hO2 (fun x hx => (hO3 x hx).mono hu1.heap) hO8 (ho9.row1 hG1) hkm⟩,
              ⟨hk'.mono hu1.heap, inc', A1', n1', c1', A2', n2', c2', A3', n3', c3', rfl, hS'.mono hu1.heap, hT'.mono hu1.heap, hO'.mono hu1.heap⟩, (((((hm.pull 5 rfl).pull 5 rfl).pull 4 rfl).pull 4 rfl).pull 5 rfl)⟩, hinv.let_, hca.let_, hcb.up⟩
        · repeat (first | refine VC.seq ?_ | refine VC.block ?_ | refine VC.skip ?_)
          refine VC.region ?_
          refine VR.pure rfl rfl (p_moveP rfl) ?_
          refine VR.pure rfl rfl (p_nilCheck rfl) ?_
          refine VR.pure rfl rfl (p_field (fo := 4) Try.underlying46 rfl Try.sizeOf44 rfl rfl rfl) ?_
          refine VR.val rfl rfl (r_load (v := .slice _ _ _) Try.isAgg44 rfl (hm.at_ 6 0 rfl) rfl) ?_
          refine VR.pure rfl rfl (p_len Try.underlying44 rfl) ?_
          refine VR.pure rfl rfl (p_gt rfl rfl) ?_
          refine VR.nil ?_
          repeat (first | refine VC.seq ?_ | refine VC.block ?_ | refine VC.skip ?_)
          refine VC.condD rfl (fun hne => ?_) (fun hne => ?_)
          · obtain ⟨ps, hO1, hO2, hO3⟩ := hO'
            have hpl : ps.length = n3' := by have := hO1.1; rw [flat_len Pb.len] at this; omega
            have hn3 : 0 < n3' := by omega
            obtain ⟨bo, offo, cur, rfl, rfl, hcp⟩ := hO1.toO.elem Pb.len (by decide) hn3
            obtain ⟨y, hy, hym⟩ := get_of (xs := ps) (k := kk / 3 % n3') (by rw [hpl]; exact Nat.mod_lt _ hn3)
            have hpk : PkOk b1 y.p := hinv.2.out y.p (by rw [← hO2]; exact List.mem_map.2 ⟨y, hym, rfl⟩)
            have hyo := hO3 y hym
            have htook := hinv.took hpk
            have hm1 := (((((((((hm.pull 10 rfl).pull 10 rfl).pull 10 rfl).pull 10 rfl).pull 9 rfl).pull 9 rfl).pull 9 rfl).pull 9 rfl).pull 9 rfl)
            replace hm : Mem G _ ([(lm, .cells cl 33 (0, 0))] :: W :: S :: T' :: O :: [(lo, .cells dl 33 (0, 0))] :: Wo :: So :: To :: [(gm, .cells #[.pointer (some ⟨lm, 0, none⟩), .int .i64 inc, .slice A1 n1 c1, .slice A2 n2 c2, .slice A3 n3 c3] 46 (0, 0))] ::
              [(go, .cells #[.pointer (some ⟨lo, 0, none⟩), .int .i64 inc', .slice A1' n1' c1', .slice A2' n2' c2', .slice (some ⟨bo, offo, none⟩) n3' c3'] 46 (0, 0))] :: [(bo, .cells cur 24 (0, 0))] :: []) := hm1
            clear hm1
            have hcon := take_c hm.drew hk hok hyo.1 (by have := hyo.2; omega) (d := y.c)
            unfold Sd.took at htook
            rcases htk : a.k.take y.p with ⟨r, br, k2⟩
            rw [htk] at htook hcon
            obtain rfl : br = false := htook.2
            have hinv2 := htook.1
            clear htook
            dsimp only at hcon hinv2
            repeat (first | refine VC.seq ?_ | refine VC.block ?_ | refine VC.skip ?_)
            refine VC.loud (Kept G ([(gm, .cells #[.pointer (some ⟨lm, 0, none⟩), .int .i64 inc, .slice A1 n1 c1, .slice A2 n2 c2, .slice A3 n3 c3] 46 (0, 0))] :: [(go, .cells #[.pointer (some ⟨lo, 0, none⟩), .int .i64 inc', .slice A1' n1' c1', .slice A2' n2' c2', .slice (some ⟨bo, offo, none⟩) n3' c3'] 46 (0, 0))] :: [(bo, .cells cur 24 (0, 0))] :: [])) [18] rfl (by kernel_rfl) (Kept.of (M := [_, _, _, _, _, _, _, _, _]) hm.drew) ?_
            replace hm := hm.drew
            refine VL.pure rfl rfl rfl (p_moveP rfl) ?_
            refine VL.pure rfl rfl rfl (p_nilCheck rfl) ?_
            refine VL.pure rfl rfl rfl (p_field (fo := 0) Try.underlying46 rfl Try.sizeOf26 rfl rfl rfl) ?_
            refine VL.read rfl rfl rfl (fun w' hw' => r_load (v := .pointer _) Try.isAgg26 rfl (hw'.at_ 0 0 rfl) rfl) ?_
            refine VL.pure rfl rfl rfl (p_moveP rfl) ?_
            refine VL.pure rfl rfl rfl (p_nilCheck rfl) ?_
            refine VL.pure rfl rfl rfl (p_field (fo := 4) Try.underlying46 rfl Try.sizeOf44 rfl rfl rfl) ?_
            refine VL.read rfl rfl rfl (fun w' hw' => r_load (v := .slice _ _ _) Try.isAgg44 rfl (hw'.at_ 1 0 rfl) rfl) ?_
            refine VL.pure rfl rfl rfl (p_moveI rfl) ?_
            refine VL.pure rfl rfl rfl (p_quo64 rfl rfl (by omega)) ?_
            refine VL.pure rfl rfl rfl (p_moveP rfl) ?_
            refine VL.pure rfl rfl rfl (p_nilCheck rfl) ?_
            refine VL.pure rfl rfl rfl (p_field (fo := 4) Try.underlying46 rfl Try.sizeOf44 rfl rfl rfl) ?_
            refine VL.read rfl rfl rfl (fun w' hw' => r_load (v := .slice _ _ _) Try.isAgg44 rfl (hw'.at_ 1 0 rfl) rfl) ?_
            refine VL.pure rfl rfl rfl (p_len Try.underlying44 rfl) ?_
            refine VL.pure rfl rfl rfl (p_rem64E (r := ((kk / 3 % n3' : Nat) : Int)) rfl rfl (by omega) (by omega) rfl) ?_
            refine VL.pure rfl rfl rfl (p_idxN Try.underlying44 Try.sizeOf24 rfl rfl (Nat.mod_lt _ hn3)) ?_
            refine VL.read rfl rfl rfl (fun w' hw' => r_loadAgg (vs := [.int _ _, .int _ _, .int _ _, .int _ _, .slice _ _ _]) Try.isAgg24 Try.sizeOf24 rfl (hw'.at_ 2 0 rfl) rfl (hcp (kk / 3 % n3') y hy)) ?_
            refine VL.call rfl rfl rfl (r_call2 Try.call9 rfl rfl) (hcon) ?_
            rintro _ w ⟨cl4, W4, A4, c4, M4, rfl, hk4, ho4, hm⟩
            refine ⟨Kept.of (M := [_, _, _, _, _, _, _, _, _, _]) hm, ?_⟩
            refine VL.pure rfl rfl rfl (p_moveT rfl) ?_
            refine VL.pure rfl rfl rfl (p_extract rfl rfl) ?_
            refine VL.pure rfl rfl rfl (p_extract rfl rfl) ?_
            refine VL.pure rfl rfl rfl (p_extract rfl rfl) ?_
            refine VL.pure rfl rfl rfl (p_assignL rfl) ?_
            refine VL.pure rfl rfl rfl (p_assignB rfl) ?_
            refine VL.pure rfl rfl rfl (p_assignB rfl) ?_
            refine VL.nil ?_
            repeat (first | refine VC.seq ?_ | refine VC.block ?_ | refine VC.skip ?_)
            refine VC.region ?_
            refine VR.pure rfl rfl (p_moveB rfl) ?_
            refine VR.nil ?_
            repeat (first | refine VC.seq ?_ | refine VC.block ?_ | refine VC.skip ?_)
            refine VC.condF rfl rfl ?_
            repeat (first | refine VC.seq ?_ | refine VC.block ?_ | refine VC.skip ?_)
            refine VC.region ?_
            refine VR.pure rfl rfl (p_moveB rfl) ?_
            refine VR.nil ?_
            have hle4 := ho4.le
            obtain ⟨G1, hu1, hm, hG1⟩ := hm.freeze
            have hlast : PbOk G1.heap y := hyo.mono hu1.heap
            cases r with
            | none =>
              repeat (first | refine VC.seq ?_ | refine VC.block ?_ | refine VC.skip ?_)
              refine VC.condF rfl rfl ?_
              repeat (first | refine VC.seq ?_ | refine VC.block ?_ | refine VC.skip ?_)
              exact ⟨(), ⟨rfl, rfl, rfl, rfl, rfl, trivial⟩, ⟨k2, a.sent, a.told, a.out⟩, b1, ⟨G1, _, cl4, W4, S, T', O, _, dl, Wo, So, To, _, hu.trans hu1,
                ⟨hk4.mono hu1.heap, inc, A1, n1, c1, A2, n2, c2, A3, n3, c3, rfl, hS.mono hu1.heap, hT.mono hu1.heap, hO.mono hu1.heap⟩,
                ⟨hk'.mono hu1.heap, inc', A1', n1', c1', A2', n2', c2', _, n3', c3', rfl, hS'.mono hu1.heap, hT'.mono hu1.heap, ⟨ps, hO1, hO2, fun x hx => (hO3 x hx).mono hu1.heap⟩⟩, (((((((hm.pull 10 rfl).pull 5 rfl).pull 5 rfl).pull 5 rfl).pull 5 rfl).pull 5 rfl).pull 10 rfl)⟩, hinv2, ⟨by have := hca.sent; show a.sent.length ≤ _; omega, by have := hca.out; show a.out.length ≤ _; omega, hca.three⟩, hcb.up⟩
            | some x1 =>
              repeat (first | refine VC.seq ?_ | refine VC.block ?_ | refine VC.skip ?_)
              refine VC.condT rfl rfl ?_
              have hT0 := hT
              obtain ⟨ws, hT1, hT2, hT3⟩ := hT
              have hn2 : n2 ≤ 300 := by
                have h1 := hT0.len
                have h2 := hinv.1.told
                have h3 := hcb.sent
                rw [h2, List.length_take] at h1
                omega
              repeat (first | refine VC.seq ?_ | refine VC.block ?_ | refine VC.skip ?_)
              refine VC.region ?_
              refine VR.pure rfl rfl (p_moveP rfl) ?_
              refine VR.pure rfl rfl (p_moveP rfl) ?_
              refine VR.pure rfl rfl (p_nilCheck rfl) ?_
              refine VR.pure rfl rfl (p_field (fo := 3) Try.underlying46 rfl Try.sizeOf29 rfl rfl rfl) ?_
              refine VR.val rfl rfl (r_load (v := .slice _ _ _) Try.isAgg29 rfl (hm.at_ 9 0 rfl) rfl) ?_
              refine VR.pure rfl rfl (p_moveL rfl) ?_
              refine VR.new hm rfl rfl (n_buildSlice1 (vs := [.slice _ _ _]) Try.underlying29 inf22 rfl rfl rfl rfl rfl rfl rfl) ?_
              intro b18 w hm
              replace hm := (hm.pull 4 rfl)
              refine VR.append (s := 1) (bytes := 24) Try.underlying29 inf22 rfl rfl rfl rfl rfl rfl rfl rfl rfl hm hT1 (Row.lit (cs := [.slice A4 _ c4]) (hm.at_ 1 0 rfl)) (by simp [Value.oneCell']) rfl ⟨by unfold maxLen; omega, by omega⟩ ?_
              intro A9 c9 w T9 hT9 hm
              refine VR.pure rfl rfl (p_nilCheck rfl) ?_
              refine VR.pure rfl rfl (p_field (fo := 3) Try.underlying46 rfl Try.sizeOf29 rfl rfl rfl) ?_
              refine VR.store (cs' := #[.pointer (some ⟨lm, 0, none⟩), .int .i64 inc, .slice A1 n1 c1, .slice A9 (n2 + 1) c9, .slice A3 n3 c3]) (v := .slice _ _ _) Try.sizeOf29 rfl rfl rfl rfl rfl hm 10 0 rfl (Nat.ble_eq.mp rfl) rfl ?_
              intro w hm
              refine VR.nil ?_
              exact ⟨(), ⟨rfl, rfl, rfl, rfl, rfl, trivial⟩, ⟨k2, a.sent, a.told ++ [x1], a.out⟩, b1, ⟨G1, _, cl4, W4, S, T9, O, _, dl, Wo, So, To, _, hu.trans hu1,
                ⟨hk4.mono hu1.heap, inc, A1, n1, c1, A9, n2 + 1, c9, A3, n3, c3, rfl, hS.mono hu1.heap, OL.push hT2 (fun b hb => ⟨(hT3 b hb).1.mono hu1.heap, (hT3 b hb).2⟩) hT9 (ho4.row1 hG1) (by omega), hO.mono hu1.heap⟩,
                ⟨hk'.mono hu1.heap, inc', A1', n1', c1', A2', n2', c2', _, n3', c3', rfl, hS'.mono hu1.heap, hT'.mono hu1.heap, ⟨ps, hO1, hO2, fun x hx => (hO3 x hx).mono hu1.heap⟩⟩, (((((((hm.pop2.pull 10 rfl).pull 5 rfl).pull 2 rfl).pull 5 rfl).pull 5 rfl).pull 5 rfl).pull 10 rfl)⟩, hinv2, ⟨by have := hca.sent; show a.sent.length ≤ _; omega, by have := hca.out; show a.out.length ≤ _; omega, hca.three⟩, hcb.up⟩
          · repeat (first | refine VC.seq ?_ | refine VC.block ?_ | refine VC.skip ?_)
            exact ⟨(), ⟨rfl, rfl, rfl, rfl, rfl, trivial⟩, a, b1, ⟨G, _, cl, W, S, T', O, _, dl, Wo, So, To, Oo, hu, ⟨hk, inc, A1, n1, c1, A2, n2, c2, A3, n3, c3, rfl, hS, hT, hO⟩, ⟨hk', inc', A1', n1', c1', A2', n2', c2', A3', n3', c3', rfl, hS', hT', hO'⟩, hm⟩, hinv, hca.up, hcb.up⟩
    · clear hm hk hk' hS hT hO hS' hT' hO' hinv hca hcb hsa hsb hok ht hwl hu
      rintro _ A' w ⟨a, b2, htwo, hinv, hca, hcb⟩
      obtain ⟨G, cs, cl, W, S, T', O, ds, dl, Wo, So, To, Oo, hu, ⟨hk, inc, A1, n1, c1, A2, n2, c2, A3, n3, c3, rfl, hS, hT, hO⟩, ⟨hk', inc', A1', n1', c1', A2', n2', c2', A3', n3', c3', rfl, hS', hT', hO'⟩, hm⟩ := htwo
      have hsa := hca.sent
      have hsb := hcb.sent
      obtain ⟨hok, ht, hwl⟩ := hinv.ok hsa hsb (by omega) (by omega)
      have hm1 := ((((((((((hm.pull 11 rfl).pull 11 rfl).pull 11 rfl).pull 11 rfl).pull 11 rfl).pull 10 rfl).pull 10 rfl).pull 10 rfl).pull 10 rfl).pull 10 rfl)
      replace hm : Mem G _ ([(lm, .cells cl 33 (0, 0))] :: W :: S :: T' :: O :: [(lo, .cells dl 33 (0, 0))] :: Wo :: So :: To :: Oo :: [(gm, .cells #[.pointer (some ⟨lm, 0, none⟩), .int .i64 inc, .slice A1 n1 c1, .slice A2 n2 c2, .slice A3 n3 c3] 46 (0, 0))] :: [(go, .cells #[.pointer (some ⟨lo, 0, none⟩), .int .i64 inc', .slice A1' n1' c1', .slice A2' n2' c2', .slice A3' n3' c3'] 46 (0, 0))] :: []) := hm1
      clear hm1
      have t1 := hinv.told_le
      have t2 := hinv.symm.told_le
      have e2 := hT.len
      have e2' := hT'.len
      rw [e2] at t1
      rw [e2'] at t2
      have hn2 : n2 ≤ 300 := by
        have h3 := congrArg List.length t1
        rw [List.length_take] at h3
        omega
      have hn2' : n2' ≤ 300 := by
        have h3 := congrArg List.length t2
        rw [List.length_take] at h3
        omega
      have hn1 := hS.len
      repeat (first | refine VC.seq ?_ | refine VC.block ?_ | refine VC.skip ?_)
      refine VC.loud (Kept G ([(gm, .cells #[.pointer (some ⟨lm, 0, none⟩), .int .i64 inc, .slice A1 n1 c1, .slice A2 n2 c2, .slice A3 n3 c3] 46 (0, 0))] :: [(go, .cells #[.pointer (some ⟨lo, 0, none⟩), .int .i64 inc', .slice A1' n1' c1', .slice A2' n2' c2', .slice A3' n3' c3'] 46 (0, 0))] :: [])) [8, 19, 27] rfl (by kernel_rfl) (Kept.of (M := [_, _, _, _, _, _, _, _, _, _]) hm.drew) ?_
      replace hm := hm.drew
      refine VL.pure rfl rfl rfl (p_moveP rfl) ?_
      refine VL.pure rfl rfl rfl (p_nilCheck rfl) ?_
      refine VL.pure rfl rfl rfl (p_field (fo := 3) Try.underlying46 rfl Try.sizeOf29 rfl rfl rfl) ?_
      refine VL.read rfl rfl rfl (fun w' hw' => r_load (v := .slice _ _ _) Try.isAgg29 rfl (hw'.at_ 0 0 rfl) rfl) ?_
      refine VL.pure rfl rfl rfl (p_moveP rfl) ?_
      refine VL.pure rfl rfl rfl (p_nilCheck rfl) ?_
      refine VL.pure rfl rfl rfl (p_field (fo := 2) Try.underlying46 rfl Try.sizeOf29 rfl rfl rfl) ?_
      refine VL.read rfl rfl rfl (fun w' hw' => r_load (v := .slice _ _ _) Try.isAgg29 rfl (hw'.at_ 1 0 rfl) rfl) ?_
      refine VL.call rfl rfl rfl (r_call2 Try.call17 rfl rfl) (begins_c hm.all (by unfold maxLen; omega) (hT.row hm.le (hm.plus_i 3 rfl)) (hS'.row hm.le (hm.plus_i 7 rfl)) t1) ?_
      rintro _ w ⟨rfl, hm'⟩
      replace hm := hm.back0 hm'
      refine ⟨Kept.of (M := [_, _, _, _, _, _, _, _, _, _]) hm, ?_⟩
      refine VL.pure rfl rfl rfl (p_not rfl) ?_
      refine VL.pure rfl rfl rfl (p_moveB rfl) ?_
      refine VL.knownF 155 rfl rfl ?_
      refine VL.pureG rfl rfl rfl (p_moveP rfl) ?_
      refine VL.pureG rfl rfl rfl (p_nilCheck rfl) ?_
      refine VL.pureG rfl rfl rfl (p_field (fo := 3) Try.underlying46 rfl Try.sizeOf29 rfl rfl rfl) ?_
      refine VL.readG rfl rfl rfl (fun w' hw' => r_load (v := .slice _ _ _) Try.isAgg29 rfl (hw'.at_ 1 0 rfl) rfl) ?_
      refine VL.pureG rfl rfl rfl (p_moveP rfl) ?_
      refine VL.pureG rfl rfl rfl (p_nilCheck rfl) ?_
      refine VL.pureG rfl rfl rfl (p_field (fo := 2) Try.underlying46 rfl Try.sizeOf29 rfl rfl rfl) ?_
      refine VL.readG rfl rfl rfl (fun w' hw' => r_load (v := .slice _ _ _) Try.isAgg29 rfl (hw'.at_ 0 0 rfl) rfl) ?_
      refine VL.callG rfl rfl rfl (r_call2 Try.call17 rfl rfl) (begins_c hm.all (by unfold maxLen; omega) (hT'.row hm.le (hm.plus_i 8 rfl)) (hS.row hm.le (hm.plus_i 2 rfl)) t2) ?_
      rintro _ w ⟨rfl, hm'⟩
      replace hm := hm.back0 hm'
      refine ⟨Kept.of (M := [_, _, _, _, _, _, _, _, _, _]) hm, ?_⟩
      refine VL.pureG rfl rfl rfl (p_not rfl) ?_
      refine VL.pure rfl rfl rfl (p_pickF rfl rfl) ?_
      refine VL.pure rfl rfl rfl (p_moveB rfl) ?_
      refine VL.knownF 167 rfl rfl ?_
      refine VL.pureG rfl rfl rfl (p_moveP rfl) ?_
      refine VL.pureG rfl rfl rfl (p_nilCheck rfl) ?_
      refine VL.pureG rfl rfl rfl (p_field (fo := 0) Try.underlying46 rfl Try.sizeOf26 rfl rfl rfl) ?_
      refine VL.readG rfl rfl rfl (fun w' hw' => r_load (v := .pointer _) Try.isAgg26 rfl (hw'.at_ 0 0 rfl) rfl) ?_
      refine VL.callG rfl rfl rfl (r_call1 Try.call12 rfl) (waiting_c hm hk) ?_
      rintro _ _ ⟨rfl, rfl⟩
      refine ⟨Kept.of (M := [_, _, _, _, _, _, _, _, _, _]) hm, ?_⟩
      refine VL.pureG rfl rfl rfl (p_moveP rfl) ?_
      refine VL.pureG rfl rfl rfl (p_nilCheck rfl) ?_
      refine VL.pureG rfl rfl rfl (p_field (fo := 2) Try.underlying46 rfl Try.sizeOf29 rfl rfl rfl) ?_
      refine VL.readG rfl rfl rfl (fun w' hw' => r_load (v := .slice _ _ _) Try.isAgg29 rfl (hw'.at_ 0 0 rfl) rfl) ?_
      refine VL.pureG rfl rfl rfl (p_len Try.underlying29 rfl) ?_
      refine VL.pureG rfl rfl rfl (p_gt rfl rfl) ?_
      refine VL.pure rfl rfl rfl (p_pickF rfl rfl) ?_
      refine VL.nil ?_
      repeat (first | refine VC.seq ?_ | refine VC.block ?_ | refine VC.skip ?_)
      refine VC.condF rfl (decide_eq_false (by rw [if_pos ht]; omega)) ?_
      repeat (first | refine VC.seq ?_ | refine VC.block ?_ | refine VC.skip ?_)
      repeat (first | refine VC.seq ?_ | refine VC.block ?_ | refine VC.skip ?_)
      refine VC.region ?_
      refine VR.pure rfl rfl (p_moveI rfl) ?_
      refine VR.pure rfl rfl (p_add64 rfl rfl (by omega)) ?_
      refine VR.pure rfl rfl (p_assignI rfl) ?_
      refine VR.nil ?_
      have htwo2 : Two G0 gm lm go lo a b2 _ := ⟨G, _, cl, W, S, T', O, _, dl, Wo, So, To, Oo, hu, ⟨hk, inc, A1, n1, c1, A2, n2, c2, A3, n3, c3, rfl, hS, hT, hO⟩, ⟨hk', inc', A1', n1', c1', A2', n2', c2', A3', n3', c3', rfl, hS', hT', hO'⟩, (((((((hm.pull 11 rfl).pull 5 rfl).pull 5 rfl).pull 5 rfl).pull 5 rfl).pull 5 rfl).pull 11 rfl)⟩
      have hinv2 := hinv
      have hca2 := hca
      have hcb2 := hcb
      refine ⟨i + 1, ⟨rfl, rfl, rfl, trivial⟩, ⟨by omega, ?_⟩, by omega⟩
      rcases hsel with e | e
      · simp only [Prod.mk.injEq] at e
        obtain ⟨rfl, rfl, rfl, rfl⟩ := e
        exact ⟨a, b2, htwo2, hinv2, hca2, hcb2⟩
      · simp only [Prod.mk.injEq] at e
        obtain ⟨rfl, rfl, rfl, rfl⟩ := e
        exact ⟨b2, a, htwo2.swap, hinv2.symm, hcb2, hca2⟩
  · repeat (first | refine VC.seq ?_ | refine VC.block ?_ | refine VC.skip ?_)
    refine VC.exit ?_
    have hin : i = n := by omega
    subst hin
    repeat (first | refine VC.seq ?_ | refine VC.block ?_ | refine VC.skip ?_)
    refine VC.region ?_
    refine VR.pure rfl rfl (p_assignI rfl) ?_
    refine VR.nil ?_
    repeat (first | refine VC.seq ?_ | refine VC.block ?_ | refine VC.skip ?_)
    refine VC.loop (σ := Nat) (fun j => [(0, .slice A i c), (3, .slice (some ⟨bs, 0, none⟩) 2 2), (12, .int .i64 j)])
      (fun j w => j ≤ 4 * i + 8 ∧ ∃ a b, Far a b j ∧ a.sent.length ≤ i ∧ b.sent.length ≤ i ∧ ((j % 2 = 0 ∧ Two G0 g0 l0 g1 l1 a b w) ∨ (j % 2 = 1 ∧ Two G0 g1 l1 g0 l0 a b w))) (fun j => 4 * i + 8 - j) 0 ⟨rfl, rfl, rfl, trivial⟩
      ⟨by omega, a0, b0, Far.zero hinv, hca.sent, hcb.sent, .inl ⟨rfl, htwo⟩⟩ ?_
    clear htwo hinv hca hcb
    rintro j A' w ⟨hj, a1, b1, hfar, hsa, hsb, htwo⟩
    repeat (first | refine VC.seq ?_ | refine VC.block ?_ | refine VC.skip ?_)
    refine VC.region ?_
    refine VR.pure rfl rfl (p_moveI rfl) ?_
    refine VR.pure rfl rfl (p_moveL rfl) ?_
    refine VR.pure rfl rfl (p_len Try.underlying42 rfl) ?_
    refine VR.pure rfl rfl (p_mul64 rfl rfl (by omega)) ?_
    refine VR.pure rfl rfl (p_add64 rfl rfl (by omega)) ?_
    refine VR.pure rfl rfl (p_lt rfl rfl) ?_
    refine VR.nil ?_
    repeat (first | refine VC.seq ?_ | refine VC.block ?_ | refine VC.skip ?_)
    refine VC.condD rfl (fun h2 => ?_) (fun h2 => ?_)
    · have hj' : j < 4 * i + 8 := by omega
      obtain ⟨q, hq, hq1, hqj⟩ : ∃ q : Nat, (j : Int) % 2 = q ∧ q ≤ 1 ∧ j % 2 = q := ⟨j % 2, by omega, by omega, rfl⟩
      obtain ⟨gm, lm, go, lo, hgm, hgo, hsel, htwo⟩ : ∃ gm lm go lo, (#[Value.pointer (some ⟨g0, 0, none⟩), .pointer (some ⟨g1, 0, none⟩)])[0 + q]? = some (.pointer (some ⟨gm, 0, none⟩)) ∧ (#[Value.pointer (some ⟨g0, 0, none⟩), .pointer (some ⟨g1, 0, none⟩)])[0 + (1 - q)]? = some (.pointer (some ⟨go, 0, none⟩)) ∧
          ((j % 2 = 0 ∧ (gm, lm, go, lo) = (g0, l0, g1, l1)) ∨ (j % 2 = 1 ∧ (gm, lm, go, lo) = (g1, l1, g0, l0))) ∧ Two G0 gm lm go lo a1 b1 w := by
        rcases htwo with ⟨h3, htwo⟩ | ⟨h3, htwo⟩
        · obtain rfl : q = 0 := by omega
          exact ⟨g0, l0, g1, l1, rfl, rfl, .inl ⟨h3, rfl⟩, htwo⟩
        · obtain rfl : q = 1 := by omega
          exact ⟨g1, l1, g0, l0, rfl, rfl, .inr ⟨h3, rfl⟩, htwo⟩
      obtain ⟨G, cs, cl, W, S, T', O, ds, dl, Wo, So, To, Oo, hu, ⟨hk, inc, A1, n1, c1, A2, n2, c2, A3, n3, c3, rfl, hS, hT, hO⟩, ⟨hk', inc', A1', n1', c1', A2', n2', c2', A3', n3', c3', rfl, hS', hT', hO'⟩, hm⟩ := htwo
      have hinv := hfar.inv
      have hnext := hfar.step
      obtain ⟨hok, ht, hwl⟩ := hinv.ok hsa hsb (by omega) (by omega)
      obtain ⟨hok', ht', hwl'⟩ := hinv.symm.ok hsb hsa (by omega) (by omega)
      have htook := hinv.took hinv.2.out_ok
      have hsent : (a1.took b1.k.out).sent = a1.sent := rfl
      repeat (first | refine VC.seq ?_ | refine VC.block ?_ | refine VC.skip ?_)
      refine VC.loud (Kept G []) [] rfl (by kernel_rfl) (Kept.of0 hm.drew) ?_
      replace hm := hm.drew
      refine VL.pure rfl rfl rfl (p_moveL rfl) ?_
      refine VL.pure rfl rfl rfl (p_moveI rfl) ?_
      refine VL.pure rfl rfl rfl (p_and1E rfl hq) ?_
      refine VL.pure rfl rfl rfl (p_idx1 Try.underlying47 Try.sizeOf43 rfl rfl (by omega : q < 2)) ?_
      refine VL.read rfl rfl rfl (fun w' hw' => r_load (v := .pointer _) Try.isAgg43 rfl (hw'.fix _ _ (hu.heap _ _ hbs)) hgm) ?_
      refine VL.pure rfl rfl rfl (p_moveL rfl) ?_
      refine VL.pure rfl rfl rfl (p_moveI rfl) ?_
      refine VL.pure rfl rfl rfl (p_and1E rfl hq) ?_
      refine VL.pure rfl rfl rfl (p_sub64E (r := ((1 - q : Nat) : Int)) rfl rfl (by omega) (by omega)) ?_
      refine VL.pure rfl rfl rfl (p_idx1 Try.underlying47 Try.sizeOf43 rfl rfl (by omega : 1 - q < 2)) ?_
      refine VL.read rfl rfl rfl (fun w' hw' => r_load (v := .pointer _) Try.isAgg43 rfl (hw'.fix _ _ (hu.heap _ _ hbs)) hgo) ?_
      refine VL.pure rfl rfl rfl (p_assignP rfl) ?_
      refine VL.pure rfl rfl rfl (p_assignP rfl) ?_
      refine VL.nil ?_
      have hm1 := ((((((((((hm.pull 11 rfl).pull 11 rfl).pull 11 rfl).pull 8 rfl).pull 8 rfl).pull 8 rfl).pull 8 rfl).pull 8 rfl).pull 11 rfl).pull 11 rfl)
      replace hm : Mem G _ ([(lo, .cells dl 33 (0, 0))] :: Wo :: [(lm, .cells cl 33 (0, 0))] :: W :: S :: T' :: O :: So :: To :: Oo :: [(gm, .cells #[.pointer (some ⟨lm, 0, none⟩), .int .i64 inc, .slice A1 n1 c1, .slice A2 n2 c2, .slice A3 n3 c3] 46 (0, 0))] :: [(go, .cells #[.pointer (some ⟨lo, 0, none⟩), .int .i64 inc', .slice A1' n1' c1', .slice A2' n2' c2', .slice A3' n3' c3'] 46 (0, 0))] :: []) := hm1
      clear hm1
      rcases htk : a1.k.take b1.k.out with ⟨r, br, k2⟩
      unfold Sd.took at htook hnext hsent
      rw [htk] at htook hnext hsent
      dsimp only at htook hnext hsent
      repeat (first | refine VC.seq ?_ | refine VC.block ?_ | refine VC.skip ?_)
      refine VC.loud (Kept G ([(gm, .cells #[.pointer (some ⟨lm, 0, none⟩), .int .i64 inc, .slice A1 n1 c1, .slice A2 n2 c2, .slice A3 n3 c3] 46 (0, 0))] :: [(go, .cells #[.pointer (some ⟨lo, 0, none⟩), .int .i64 inc', .slice A1' n1' c1', .slice A2' n2' c2', .slice A3' n3' c3'] 46 (0, 0))] :: [])) [8, 9] rfl (by kernel_rfl) (Kept.of (M := [_, _, _, _, _, _, _, _, _, _]) hm.drew) ?_
      replace hm := hm.drew
      refine VL.pure rfl rfl rfl (p_moveP rfl) ?_
      refine VL.pure rfl rfl rfl (p_nilCheck rfl) ?_
      refine VL.pure rfl rfl rfl (p_field (fo := 0) Try.underlying46 rfl Try.sizeOf26 rfl rfl rfl) ?_
      refine VL.read rfl rfl rfl (fun w' hw' => r_load (v := .pointer _) Try.isAgg26 rfl (hw'.at_ 0 0 rfl) rfl) ?_
      refine VL.pure rfl rfl rfl (p_moveP rfl) ?_
      refine VL.pure rfl rfl rfl (p_nilCheck rfl) ?_
      refine VL.pure rfl rfl rfl (p_field (fo := 0) Try.underlying46 rfl Try.sizeOf26 rfl rfl rfl) ?_
      refine VL.read rfl rfl rfl (fun w' hw' => r_load (v := .pointer _) Try.isAgg26 rfl (hw'.at_ 1 0 rfl) rfl) ?_
      refine VL.call rfl rfl rfl (r_call1 Try.call14 rfl) (out_c hm hk' hok') ?_
      rintro _ w ⟨A8, c8, M8, rfl, ho8, hm⟩
      obtain ⟨G1, hu1, hm, hG1⟩ := hm.freeze
      refine ⟨Kept.of (M := [_, _, _, _, _, _, _, _, _, _]) (hm.shrink hu1), ?_⟩
      replace hm := ((hm.pull 3 rfl).pull 3 rfl)
      have hcon := take_c hm (hk.mono hu1.heap) hok (ho8.row1 hG1) (by have := hk'.small; omega) (d := c8)
      rw [htk] at hcon
      dsimp only at hcon
      refine VL.call rfl rfl rfl (r_call2 Try.call9 rfl rfl) (hcon) ?_
      rintro _ w ⟨cl4, W4, A4, c4, M4, rfl, hk4, ho4, hm⟩
      obtain ⟨G2, hu2, hm, hG2⟩ := hm.freeze
      have hu12 := hu1.trans hu2
      refine ⟨Kept.of (M := [_, _, _, _, _, _, _, _, _, _]) (hm.shrink hu12), ?_⟩
      refine VL.pure rfl rfl rfl (p_moveT rfl) ?_
      refine VL.pure rfl rfl rfl (p_extract rfl rfl) ?_
      refine VL.pure rfl rfl rfl (p_extract rfl rfl) ?_
      refine VL.pure rfl rfl rfl (p_extract rfl rfl) ?_
      refine VL.pure rfl rfl rfl (p_assignL rfl) ?_
      refine VL.pure rfl rfl rfl (p_assignB rfl) ?_
      refine VL.pure rfl rfl rfl (p_assignB rfl) ?_
      refine VL.nil ?_
      repeat (first | refine VC.seq ?_ | refine VC.block ?_ | refine VC.skip ?_)
      refine VC.region ?_
      refine VR.pure rfl rfl (p_moveB rfl) ?_
      refine VR.nil ?_
      have hle4 := ho4.le
      have hsel' : ∀ w a b, Two G0 go lo gm lm a b w → (((j + 1) % 2 = 0 ∧ Two G0 g0 l0 g1 l1 a b w) ∨ ((j + 1) % 2 = 1 ∧ Two G0 g1 l1 g0 l0 a b w)) := fun w a b h => by
        rcases hsel with ⟨h3, e⟩ | ⟨h3, e⟩
        · simp only [Prod.mk.injEq] at e
          obtain ⟨rfl, rfl, rfl, rfl⟩ := e
          exact .inr ⟨by omega, h⟩
        · simp only [Prod.mk.injEq] at e
          obtain ⟨rfl, rfl, rfl, rfl⟩ := e
          exact .inl ⟨by omega, h⟩
      have h12 := hu12.heap
      cases r with
      | none =>
        repeat (first | refine VC.seq ?_ | refine VC.block ?_ | refine VC.skip ?_)
        refine VC.condF rfl rfl ?_
        repeat (first | refine VC.seq ?_ | refine VC.block ?_ | refine VC.skip ?_)
        repeat (first | refine VC.seq ?_ | refine VC.block ?_ | refine VC.skip ?_)
        refine VC.region ?_
        refine VR.pure rfl rfl (p_moveI rfl) ?_
        refine VR.pure rfl rfl (p_add64 rfl rfl (by omega)) ?_
        refine VR.pure rfl rfl (p_assignI rfl) ?_
        refine VR.nil ?_
        refine ⟨j + 1, ⟨rfl, rfl, rfl, trivial⟩, ⟨by omega, b1, ⟨k2, a1.sent, a1.told, a1.out⟩, hnext, hsb, hsa, hsel' _ _ _ (Two.swap ?_)⟩, by omega⟩
        exact ⟨G2, _, cl4, W4, S, T', O, _, dl, Wo, So, To, Oo, hu.trans hu12,
          ⟨hk4.mono hu2.heap, inc, A1, n1, c1, A2, n2, c2, A3, n3, c3, rfl, hS.mono h12, hT.mono h12, hO.mono h12⟩,
          ⟨hk'.mono h12, inc', A1', n1', c1', A2', n2', c2', A3', n3', c3', rfl, hS'.mono h12, hT'.mono h12, hO'.mono h12⟩, (((((((hm.pull 11 rfl).pull 7 rfl).pull 7 rfl).pull 7 rfl).pull 5 rfl).pull 5 rfl).pull 11 rfl)⟩
      | some x1 =>
        repeat (first | refine VC.seq ?_ | refine VC.block ?_ | refine VC.skip ?_)
        refine VC.condT rfl rfl ?_
        have hT0 := hT
        obtain ⟨ws, hT1, hT2, hT3⟩ := hT
        have hn2 : n2 ≤ 300 := by
          have h1 := hT0.len
          have h2 := hinv.1.told
          rw [h2, List.length_take] at h1
          omega
        repeat (first | refine VC.seq ?_ | refine VC.block ?_ | refine VC.skip ?_)
        refine VC.region ?_
        refine VR.pure rfl rfl (p_moveP rfl) ?_
        refine VR.pure rfl rfl (p_moveP rfl) ?_
        refine VR.pure rfl rfl (p_nilCheck rfl) ?_
        refine VR.pure rfl rfl (p_field (fo := 3) Try.underlying46 rfl Try.sizeOf29 rfl rfl rfl) ?_
        refine VR.val rfl rfl (r_load (v := .slice _ _ _) Try.isAgg29 rfl (hm.at_ 10 0 rfl) rfl) ?_
        refine VR.pure rfl rfl (p_moveL rfl) ?_
        refine VR.new hm rfl rfl (n_buildSlice1 (vs := [.slice _ _ _]) Try.underlying29 inf22 rfl rfl rfl rfl rfl rfl rfl) ?_
        intro b18 w hm
        replace hm := (hm.pull 6 rfl)
        refine VR.append (s := 1) (bytes := 24) Try.underlying29 inf22 rfl rfl rfl rfl rfl rfl rfl rfl rfl hm hT1 (Row.lit (cs := [.slice A4 _ c4]) (hm.at_ 1 0 rfl)) (by simp [Value.oneCell']) rfl ⟨by unfold maxLen; omega, by omega⟩ ?_
        intro A9 c9 w T9 hT9 hm
        refine VR.pure rfl rfl (p_nilCheck rfl) ?_
        refine VR.pure rfl rfl (p_field (fo := 3) Try.underlying46 rfl Try.sizeOf29 rfl rfl rfl) ?_
        refine VR.store (cs' := #[.pointer (some ⟨lm, 0, none⟩), .int .i64 inc, .slice A1 n1 c1, .slice A9 (n2 + 1) c9, .slice A3 n3 c3]) (v := .slice _ _ _) Try.sizeOf29 rfl rfl rfl rfl rfl hm 11 0 rfl (Nat.ble_eq.mp rfl) rfl ?_
        intro w hm
        refine VR.nil ?_
        repeat (first | refine VC.seq ?_ | refine VC.block ?_ | refine VC.skip ?_)
        repeat (first | refine VC.seq ?_ | refine VC.block ?_ | refine VC.skip ?_)
        refine VC.region ?_
        refine VR.pure rfl rfl (p_moveI rfl) ?_
        refine VR.pure rfl rfl (p_add64 rfl rfl (by omega)) ?_
        refine VR.pure rfl rfl (p_assignI rfl) ?_
        refine VR.nil ?_
        refine ⟨j + 1, ⟨rfl, rfl, rfl, trivial⟩, ⟨by omega, b1, ⟨k2, a1.sent, a1.told ++ [x1], a1.out⟩, hnext, hsb, hsa, hsel' _ _ _ (Two.swap ?_)⟩, by omega⟩
        exact ⟨G2, _, cl4, W4, S, T9, O, _, dl, Wo, So, To, Oo, hu.trans hu12,
          ⟨hk4.mono hu2.heap, inc, A1, n1, c1, A9, n2 + 1, c9, A3, n3, c3, rfl, hS.mono h12, OL.push hT2 (fun b hb => ⟨(hT3 b hb).1.mono h12, (hT3 b hb).2⟩) hT9 (ho4.row1 hG2) (by omega), hO.mono h12⟩,
          ⟨hk'.mono h12, inc', A1', n1', c1', A2', n2', c2', A3', n3', c3', rfl, hS'.mono h12, hT'.mono h12, hO'.mono h12⟩, (((((((hm.pop2.pull 11 rfl).pull 7 rfl).pull 2 rfl).pull 7 rfl).pull 5 rfl).pull 5 rfl).pull 11 rfl)⟩
    · repeat (first | refine VC.seq ?_ | refine VC.block ?_ | refine VC.skip ?_)
      refine VC.exit ?_
      obtain rfl : j = 4 * i + 8 := by omega
      rcases htwo with ⟨_, htwo⟩ | ⟨h3, _⟩
      · obtain ⟨e1, e2, e3, e4⟩ := hfar.all hsa hsb (by omega)
        have hinv := hfar.inv
        obtain ⟨hok, ht, hwl⟩ := hinv.ok hsa hsb (by omega) (by omega)
        obtain ⟨hok', ht', hwl'⟩ := hinv.symm.ok hsb hsa (by omega) (by omega)
        obtain ⟨G, cs, cl, W, S, T', O, ds, dl, Wo, So, To, Oo, hu, ⟨hk, inc, A1, n1, c1, A2, n2, c2, A3, n3, c3, rfl, hS, hT, hO⟩, ⟨hk', inc', A1', n1', c1', A2', n2', c2', A3', n3', c3', rfl, hS', hT', hO'⟩, hm⟩ := htwo
        have hm1 := ((((((((((hm.pull 11 rfl).pull 11 rfl).pull 11 rfl).pull 11 rfl).pull 11 rfl).pull 10 rfl).pull 10 rfl).pull 10 rfl).pull 10 rfl).pull 10 rfl)
        replace hm : Mem G _ ([(l0, .cells cl 33 (0, 0))] :: W :: S :: T' :: O :: [(l1, .cells dl 33 (0, 0))] :: Wo :: So :: To :: Oo :: [(g0, .cells #[.pointer (some ⟨l0, 0, none⟩), .int .i64 inc, .slice A1 n1 c1, .slice A2 n2 c2, .slice A3 n3 c3] 46 (0, 0))] :: [(g1, .cells #[.pointer (some ⟨l1, 0, none⟩), .int .i64 inc', .slice A1' n1' c1', .slice A2' n2' c2', .slice A3' n3' c3'] 46 (0, 0))] :: []) := hm1
        clear hm1
        have s1 := hS.len
        have s2 := hT.len
        have s1' := hS'.len
        have s2' := hT'.len
        have t1 : a1.told = b1.sent.take n2 := by rw [e1, ← s2, e1, List.take_length]
        have t2 : b1.told = a1.sent.take n2' := by rw [e2, ← s2', e2, List.take_length]
        rw [e1] at s2
        rw [e2] at s2'
        repeat (first | refine VC.seq ?_ | refine VC.block ?_ | refine VC.skip ?_)
        refine VC.loud (Kept G ([(g0, .cells #[.pointer (some ⟨l0, 0, none⟩), .int .i64 inc, .slice A1 n1 c1, .slice A2 n2 c2, .slice A3 n3 c3] 46 (0, 0))] :: [(g1, .cells #[.pointer (some ⟨l1, 0, none⟩), .int .i64 inc', .slice A1' n1' c1', .slice A2' n2' c2', .slice A3' n3' c3'] 46 (0, 0))] :: [])) [45, 60, 69, 76] rfl (by kernel_rfl) (Kept.of (M := [_, _, _, _, _, _, _, _, _, _]) hm.drew) ?_
        replace hm := hm.drew
        refine VL.pure rfl rfl rfl (p_moveL rfl) ?_
        refine VL.pure rfl rfl rfl (p_idx1 (j := 0) Try.underlying47 Try.sizeOf43 rfl rfl (by decide)) ?_
        refine VL.read rfl rfl rfl (fun w' hw' => r_load (v := .pointer _) Try.isAgg43 rfl (hw'.fix _ _ (hu.heap _ _ hbs)) rfl) ?_
        refine VL.pure rfl rfl rfl (p_nilCheck rfl) ?_
        refine VL.pure rfl rfl rfl (p_field (fo := 3) Try.underlying46 rfl Try.sizeOf29 rfl rfl rfl) ?_
        refine VL.read rfl rfl rfl (fun w' hw' => r_load (v := .slice _ _ _) Try.isAgg29 rfl (hw'.at_ 0 0 rfl) rfl) ?_
        refine VL.pure rfl rfl rfl (p_len Try.underlying29 rfl) ?_
        refine VL.pure rfl rfl rfl (p_moveL rfl) ?_
        refine VL.pure rfl rfl rfl (p_idx1 (j := 1) Try.underlying47 Try.sizeOf43 rfl rfl (by decide)) ?_
        refine VL.read rfl rfl rfl (fun w' hw' => r_load (v := .pointer _) Try.isAgg43 rfl (hw'.fix _ _ (hu.heap _ _ hbs)) rfl) ?_
        refine VL.pure rfl rfl rfl (p_nilCheck rfl) ?_
        refine VL.pure rfl rfl rfl (p_field (fo := 2) Try.underlying46 rfl Try.sizeOf29 rfl rfl rfl) ?_
        refine VL.read rfl rfl rfl (fun w' hw' => r_load (v := .slice _ _ _) Try.isAgg29 rfl (hw'.at_ 1 0 rfl) rfl) ?_
        refine VL.pure rfl rfl rfl (p_len Try.underlying29 rfl) ?_
        refine VL.pure rfl rfl rfl (p_eq rfl rfl) ?_
        refine VL.pure rfl rfl rfl (p_moveB rfl) ?_
        refine VL.knownT 239 rfl (decide_eq_true (by omega)) ?_
        refine VL.pureG rfl rfl rfl (p_moveL rfl) ?_
        refine VL.pureG rfl rfl rfl (p_idx1 (j := 1) Try.underlying47 Try.sizeOf43 rfl rfl (by decide)) ?_
        refine VL.readG rfl rfl rfl (fun w' hw' => r_load (v := .pointer _) Try.isAgg43 rfl (hw'.fix _ _ (hu.heap _ _ hbs)) rfl) ?_
        refine VL.pureG rfl rfl rfl (p_nilCheck rfl) ?_
        refine VL.pureG rfl rfl rfl (p_field (fo := 3) Try.underlying46 rfl Try.sizeOf29 rfl rfl rfl) ?_
        refine VL.readG rfl rfl rfl (fun w' hw' => r_load (v := .slice _ _ _) Try.isAgg29 rfl (hw'.at_ 1 0 rfl) rfl) ?_
        refine VL.pureG rfl rfl rfl (p_len Try.underlying29 rfl) ?_
        refine VL.pureG rfl rfl rfl (p_moveL rfl) ?_
        refine VL.pureG rfl rfl rfl (p_idx1 (j := 0) Try.underlying47 Try.sizeOf43 rfl rfl (by decide)) ?_
        refine VL.readG rfl rfl rfl (fun w' hw' => r_load (v := .pointer _) Try.isAgg43 rfl (hw'.fix _ _ (hu.heap _ _ hbs)) rfl) ?_
        refine VL.pureG rfl rfl rfl (p_nilCheck rfl) ?_
        refine VL.pureG rfl rfl rfl (p_field (fo := 2) Try.underlying46 rfl Try.sizeOf29 rfl rfl rfl) ?_
        refine VL.readG rfl rfl rfl (fun w' hw' => r_load (v := .slice _ _ _) Try.isAgg29 rfl (hw'.at_ 0 0 rfl) rfl) ?_
        refine VL.pureG rfl rfl rfl (p_len Try.underlying29 rfl) ?_
        refine VL.pureG rfl rfl rfl (p_eq rfl rfl) ?_
        refine VL.pure rfl rfl rfl (p_pickT rfl rfl) ?_
        refine VL.pure rfl rfl rfl (p_moveB rfl) ?_
        refine VL.knownT 256 rfl (decide_eq_true (by omega)) ?_
        refine VL.pureG rfl rfl rfl (p_moveL rfl) ?_
        refine VL.pureG rfl rfl rfl (p_idx1 (j := 0) Try.underlying47 Try.sizeOf43 rfl rfl (by decide)) ?_
        refine VL.readG rfl rfl rfl (fun w' hw' => r_load (v := .pointer _) Try.isAgg43 rfl (hw'.fix _ _ (hu.heap _ _ hbs)) rfl) ?_
        refine VL.pureG rfl rfl rfl (p_nilCheck rfl) ?_
        refine VL.pureG rfl rfl rfl (p_field (fo := 3) Try.underlying46 rfl Try.sizeOf29 rfl rfl rfl) ?_
        refine VL.readG rfl rfl rfl (fun w' hw' => r_load (v := .slice _ _ _) Try.isAgg29 rfl (hw'.at_ 0 0 rfl) rfl) ?_
        refine VL.pureG rfl rfl rfl (p_moveL rfl) ?_
        refine VL.pureG rfl rfl rfl (p_idx1 (j := 1) Try.underlying47 Try.sizeOf43 rfl rfl (by decide)) ?_
        refine VL.readG rfl rfl rfl (fun w' hw' => r_load (v := .pointer _) Try.isAgg43 rfl (hw'.fix _ _ (hu.heap _ _ hbs)) rfl) ?_
        refine VL.pureG rfl rfl rfl (p_nilCheck rfl) ?_
        refine VL.pureG rfl rfl rfl (p_field (fo := 2) Try.underlying46 rfl Try.sizeOf29 rfl rfl rfl) ?_
        refine VL.readG rfl rfl rfl (fun w' hw' => r_load (v := .slice _ _ _) Try.isAgg29 rfl (hw'.at_ 1 0 rfl) rfl) ?_
        refine VL.callG rfl rfl rfl (r_call2 Try.call17 rfl rfl) (begins_c hm.all (by unfold maxLen; omega) (hT.row hm.le (hm.plus_i 3 rfl)) (hS'.row hm.le (hm.plus_i 7 rfl)) t1) ?_
        rintro _ w ⟨rfl, hm'⟩
        replace hm := hm.back0 hm'
        refine ⟨Kept.of (M := [_, _, _, _, _, _, _, _, _, _]) hm, ?_⟩
        refine VL.pure rfl rfl rfl (p_pickT rfl rfl) ?_
        refine VL.pure rfl rfl rfl (p_moveB rfl) ?_
        refine VL.knownT 271 rfl rfl ?_
        refine VL.pureG rfl rfl rfl (p_moveL rfl) ?_
        refine VL.pureG rfl rfl rfl (p_idx1 (j := 1) Try.underlying47 Try.sizeOf43 rfl rfl (by decide)) ?_
        refine VL.readG rfl rfl rfl (fun w' hw' => r_load (v := .pointer _) Try.isAgg43 rfl (hw'.fix _ _ (hu.heap _ _ hbs)) rfl) ?_
        refine VL.pureG rfl rfl rfl (p_nilCheck rfl) ?_
        refine VL.pureG rfl rfl rfl (p_field (fo := 3) Try.underlying46 rfl Try.sizeOf29 rfl rfl rfl) ?_
        refine VL.readG rfl rfl rfl (fun w' hw' => r_load (v := .slice _ _ _) Try.isAgg29 rfl (hw'.at_ 1 0 rfl) rfl) ?_
        refine VL.pureG rfl rfl rfl (p_moveL rfl) ?_
        refine VL.pureG rfl rfl rfl (p_idx1 (j := 0) Try.underlying47 Try.sizeOf43 rfl rfl (by decide)) ?_
        refine VL.readG rfl rfl rfl (fun w' hw' => r_load (v := .pointer _) Try.isAgg43 rfl (hw'.fix _ _ (hu.heap _ _ hbs)) rfl) ?_
        refine VL.pureG rfl rfl rfl (p_nilCheck rfl) ?_
        refine VL.pureG rfl rfl rfl (p_field (fo := 2) Try.underlying46 rfl Try.sizeOf29 rfl rfl rfl) ?_
        refine VL.readG rfl rfl rfl (fun w' hw' => r_load (v := .slice _ _ _) Try.isAgg29 rfl (hw'.at_ 0 0 rfl) rfl) ?_
        refine VL.callG rfl rfl rfl (r_call2 Try.call17 rfl rfl) (begins_c hm.all (by unfold maxLen; omega) (hT'.row hm.le (hm.plus_i 8 rfl)) (hS.row hm.le (hm.plus_i 2 rfl)) t2) ?_
        rintro _ w ⟨rfl, hm'⟩
        replace hm := hm.back0 hm'
        refine ⟨Kept.of (M := [_, _, _, _, _, _, _, _, _, _]) hm, ?_⟩
        refine VL.pure rfl rfl rfl (p_pickT rfl rfl) ?_
        refine VL.pure rfl rfl rfl (p_moveB rfl) ?_
        refine VL.knownT 286 rfl rfl ?_
        refine VL.pureG rfl rfl rfl (p_moveL rfl) ?_
        refine VL.pureG rfl rfl rfl (p_idx1 (j := 0) Try.underlying47 Try.sizeOf43 rfl rfl (by decide)) ?_
        refine VL.readG rfl rfl rfl (fun w' hw' => r_load (v := .pointer _) Try.isAgg43 rfl (hw'.fix _ _ (hu.heap _ _ hbs)) rfl) ?_
        refine VL.pureG rfl rfl rfl (p_nilCheck rfl) ?_
        refine VL.pureG rfl rfl rfl (p_field (fo := 0) Try.underlying46 rfl Try.sizeOf26 rfl rfl rfl) ?_
        refine VL.readG rfl rfl rfl (fun w' hw' => r_load (v := .pointer _) Try.isAgg26 rfl (hw'.at_ 0 0 rfl) rfl) ?_
        refine VL.callG rfl rfl rfl (r_call1 Try.call12 rfl) (waiting_c hm hk) ?_
        rintro _ _ ⟨rfl, rfl⟩
        refine ⟨Kept.of (M := [_, _, _, _, _, _, _, _, _, _]) hm, ?_⟩
        refine VL.pureG rfl rfl rfl (p_moveL rfl) ?_
        refine VL.pureG rfl rfl rfl (p_idx1 (j := 1) Try.underlying47 Try.sizeOf43 rfl rfl (by decide)) ?_
        refine VL.readG rfl rfl rfl (fun w' hw' => r_load (v := .pointer _) Try.isAgg43 rfl (hw'.fix _ _ (hu.heap _ _ hbs)) rfl) ?_
        refine VL.pureG rfl rfl rfl (p_nilCheck rfl) ?_
        refine VL.pureG rfl rfl rfl (p_field (fo := 0) Try.underlying46 rfl Try.sizeOf26 rfl rfl rfl) ?_
        refine VL.readG rfl rfl rfl (fun w' hw' => r_load (v := .pointer _) Try.isAgg26 rfl (hw'.at_ 1 0 rfl) rfl) ?_
        replace hm := (hm.pull 5 rfl)
        refine VL.callG rfl rfl rfl (r_call1 Try.call12 rfl) (waiting_c hm hk') ?_
        rintro _ _ ⟨rfl, rfl⟩
        refine ⟨Kept.of (M := [_, _, _, _, _, _, _, _, _, _]) hm, ?_⟩
        refine VL.pureG rfl rfl rfl (p_add64 rfl rfl (by rw [if_pos ht, if_pos ht', e3, e4]; decide)) ?_
        refine VL.pureG rfl rfl rfl (p_eq rfl rfl) ?_
        refine VL.pure rfl rfl rfl (p_pickT rfl rfl) ?_
        refine VL.pure rfl rfl rfl (p_assignB rfl) ?_
        refine VL.nil ?_
        repeat (first | refine VC.seq ?_ | refine VC.block ?_ | refine VC.skip ?_)
        refine VC.ret ⟨_, ResOf.r1 (v := .bool _) rfl rfl, ?_⟩
        refine ⟨congrArg Value.bool (decide_eq_true ?_), (hm.none_.shrink hu).shrink hu0⟩
        rw [if_pos ht, if_pos ht', e3, e4]
        rfl
      · omega
end Go.Bd
namespace Go.Proofs.Ytfaihpikeagpcaa
open Go.Bd Go.ChangeShapes Go.WideShapes

set_option maxRecDepth 100000 in
theorem orders_lifted (os : Os) (started : os.Started) (H : Type) (enc : TypeId × Value → H) :
    ReturnsInHanded {} Try.checked os 4 .any (Rows.linkOrdersSpec.pre6 enc Try.prog Try.f4 Rows.linkOrdersRow.domain false) (Rows.linkOrdersSpec.post enc Try.prog Try.f4 false true false false) := by
  refine law_frame (C := Try.checked) (tb := 4) (by kernel_rfl) (by kernel_rfl) started (by kernel_rfl) Try.func4 rfl rfl Try.underlying4 (by kernel_rfl) ?_
    (ChangeSpec.witness6 (enc := enc) (C := Try.checked) false ⟨#[], #[.slice none 0 0], []⟩ 8 (by kernel_rfl) (by kernel_rfl) (by kernel_rfl) (by kernel_rfl)) ?_
  · intro ds hl
    match ds, hl with
    | [d1], _ => rfl
  · intro W base args ds p hval hA hwt
    replace hA : DataW.TrodAll enc Try.prog W 0 (fun _ => true) true Try.f4.params.toList args.toList ds p := hA
    rw [Try.params4] at hA hval
    replace hwt : (DataW.weightsEach Try.prog [42] ds).all (· ≤ reachBytes) = true := hwt
    obtain ⟨v0, vs0, d0, ds0, p0, q0, hargs, rfl, rfl, h0, r0⟩ := trodAll_cons hA
    obtain ⟨rfl, rfl, rfl⟩ := trodAll_nil r0
    obtain rfl : args = #[v0] := by cases args; simp_all
    obtain ⟨A0, n0, c0, xs0, rfl, hn0, hc0, hr0, w0, hd0⟩ := arg_ints Try.underlying42 Try.underlying3 (by kernel_rfl) (hval 0 42 v0 rfl rfl) h0
    exact link_orders_c (Mem.of W) hr0

theorem orders : Rows.LinkOrdersSaid :=
  OpenClaim.holds_of_wide 4 Try.f4 rfl rfl rfl rfl rfl rfl rfl ⟨rfl, rfl, rfl, rfl, rfl⟩ rfl rfl rfl rfl rfl (by kernel_rfl) Try.func4 (by kernel_rfl)
    (of_decide_eq_true (by kernel_rfl)) (by unfold Func.isWrapper; rw [if_neg (of_decide_eq_false (by kernel_rfl))]; exact ⟨rfl, rfl⟩)
    (fun os started H enc _ => orders_lifted os started H enc)
end Go.Proofs.Ytfaihpikeagpcaa
