/- LinkApart: what was sent in one connection is never told in another one. Conditions: none. -/
import Derived.Test.Ytfaihpikeagpcaa10r
import Derived.Test.Ytfaihpikeagpcaa10s
import Derived.Test.Ytfaihpikeagpcaa10q
import Derived.Test.YtfaihpikeagpcaaFrame
namespace Go.Bd
open Go.Proofs
set_option linter.unusedVariables false
set_option linter.unusedSimpArgs false
set_option maxRecDepth 20000

/-- What a link has counted. -/
def Lk.upto (k : Lk) (i : Nat) : Prop := k.there ∧ 0 ≤ k.acked ∧ k.acked ≤ i ∧ 0 ≤ k.got ∧ k.got ≤ i
theorem Lk.upto.ok {k : Lk} {i : Nat} (h : k.upto i) (hi : i < 1000) : k.ok := by
  unfold Lk.upto at h
  unfold Lk.ok
  omega
theorem Lk.upto.send {k : Lk} {i : Nat} (h : k.upto i) (l : List Int) : (k.send l).2.upto (i + 1) := by
  unfold Lk.upto Lk.there at *
  unfold Lk.send
  split
  · simp only; omega
  split
  · simp only; omega
  split
  · simp only; omega
  split
  · simp only; omega
  · simp only; omega
theorem Lk.upto.reset {k : Lk} {i : Nat} (h : k.upto i) (inc : Int) : (k.reset inc).upto (i + 1) := by
  unfold Lk.upto Lk.there at *
  unfold Lk.reset
  split
  · simp only; omega
  · omega
theorem meet_upto {k : Lk} {i : Nat} (p : Pk) (h : k.upto i) : (k.meet p).1.upto i := by
  unfold Lk.upto Lk.there at *
  unfold Lk.meet
  split
  · split <;> (simp only; omega)
  · simp only; omega
theorem done_upto {k : Lk} {i : Nat} (p : Pk) (h : k.upto i) : (k.done p).there ∧ 0 ≤ (k.done p).acked ∧ (k.done p).acked ≤ i + 1 ∧ 0 ≤ (k.done p).got ∧ (k.done p).got ≤ i := by
  unfold Lk.upto Lk.there at *
  unfold Lk.done
  split
  · simp only; omega
  · omega
theorem Lk.upto.take {k : Lk} {i : Nat} (h : k.upto i) (p : Pk) : (k.take p).2.2.upto (i + 1) := by
  have h1 := meet_upto p h
  have h2 := done_upto p h1
  unfold Lk.take
  unfold Lk.upto Lk.there at *
  split
  · simp only; omega
  split
  · simp only; omega
  split
  · simp only; omega
  · simp only; omega


theorem LkAt.small {H : Nat → Option Obj} {k : Lk} {cs : Array Value} {L : Blks} (h : LkAt H k cs L) : k.out.load.length ≤ 1048476 := by
  obtain ⟨A, n, c, ws, _, _, hws, hwo⟩ := h
  unfold Lk.out
  split
  · simp
  · cases hc : k.wait with
    | nil => simp
    | cons l r =>
      show (if 0 < k.peer then _ else _ : Pk).load.length ≤ _
      split
      · have hl : l ∈ ws.map Bs.bs := by rw [hws, hc]; exact .head _
        obtain ⟨b, hb, rfl⟩ := List.mem_map.1 hl
        have h1 := hwo b hb
        show b.bs.length ≤ _
        rw [h1.1.len]
        exact h1.2
      · simp
theorem u8_range (x : Int) : 0 ≤ IntKind.u8.wrap x ∧ IntKind.u8.wrap x ≤ 255 := by rw [IntKind.wrap_u8]; omega
theorem enc_num {t : Nat} (h : t ≤ 65535) : IntKind.u8.wrap (t : Int) + 256 * IntKind.u8.wrap ((t : Int) / 256) = t := by rw [IntKind.wrap_u8, IntKind.wrap_u8]; omega
theorem send_any {k : Lk} {l : List Int} (ht : k.there) (hl : 0 < l.length ∧ l.length ≤ 1048476) (hw : k.wait.length < 1000) : k.send l = (0, { k with wait := k.wait ++ [l] }) := by
  unfold Lk.send
  rw [if_neg (not_not_intro ht), if_neg (by omega), if_neg (by omega), if_neg (by omega)]

/-- How a side lies, with its incarnation. -/
structure SdI (H : Nat → Option Obj) (gl : Nat) (a : Sd) (cs cl : Array Value) (W S T O : Blks) : Prop where
  link : LkAt H a.k cl W
  rest : ∃ A1 n1 c1 A2 n2 c2 A3 n3 c3, cs = #[.pointer (some ⟨gl, 0, none⟩), .int .i64 a.k.inc, .slice A1 n1 c1, .slice A2 n2 c2, .slice A3 n3 c3] ∧ OL H A1 n1 c1 a.sent S ∧ OL H A2 n2 c2 a.told T ∧ OP H A3 n3 c3 a.out O
def Duo (F : Env) (gs gl hs hl : Nat) (a b : Sd) (w : World) : Prop :=
  ∃ G cs cl W S T O ds dl W' S' T' O', F.under G ∧ SdI G.heap gl a cs cl W S T O ∧ SdI G.heap hl b ds dl W' S' T' O' ∧
    Mem G w ([(gs, .cells cs 46 (0, 0))] :: [(gl, .cells cl 33 (0, 0))] :: W :: S :: T :: O :: [(hs, .cells ds 46 (0, 0))] :: [(hl, .cells dl 33 (0, 0))] :: W' :: S' :: T' :: O' :: [])
theorem Duo.swap {F : Env} {gs gl hs hl : Nat} {a b : Sd} {w : World} (h : Duo F gs gl hs hl a b w) : Duo F hs hl gs gl b a w := by
  obtain ⟨G, cs, cl, W, S, T, O, ds, dl, W', S', T', O', hu, h1, h2, hm⟩ := h
  exact ⟨G, ds, dl, W', S', T', O', cs, cl, W, S, T, O, hu, h2, h1, (((((hm.pull 11 rfl).pull 11 rfl).pull 11 rfl).pull 11 rfl).pull 11 rfl).pull 11 rfl⟩
/-- What a side has counted. -/
structure Cn (a : Sd) (i : Nat) : Prop where
  link : a.k.upto i
  wait : a.k.wait.length ≤ i
  sent : a.sent.length ≤ i
  told : a.told.length ≤ i
  out : a.out.length ≤ i
  inc : a.k.inc ≤ i + 1
theorem Lk.upto.more {k : Lk} {i : Nat} (h : k.upto i) : k.upto (i + 1) := by
  unfold Lk.upto at *
  exact ⟨h.1, by omega, by omega, by omega, by omega⟩
theorem Cn.more {a : Sd} {i : Nat} (h : Cn a i) : Cn a (i + 1) := ⟨h.link.more, by have := h.wait; omega, by have := h.sent; omega, by have := h.told; omega, by have := h.out; omega, by have := h.inc; omega⟩
theorem Cn.zero : Cn ⟨⟨1, 0, 0, 0, []⟩, [], [], []⟩ 0 := ⟨by unfold Lk.upto Lk.there; decide, by simp, by simp, by simp, by simp, by decide⟩
theorem take_wait (k : Lk) (p : Pk) : (k.take p).2.2.wait.length ≤ k.wait.length ∧ (k.take p).2.2.inc = k.inc := by
  have h1 : (k.meet p).1.wait.length ≤ k.wait.length ∧ (k.meet p).1.inc = k.inc := by
    unfold Lk.meet
    split
    · split
      · exact ⟨by simp, rfl⟩
      · exact ⟨Nat.le_refl _, rfl⟩
    · exact ⟨Nat.le_refl _, rfl⟩
  have h2 : ((k.meet p).1.done p).wait.length ≤ k.wait.length ∧ ((k.meet p).1.done p).inc = k.inc := by
    unfold Lk.done
    split
    · refine ⟨?_, h1.2⟩
      show (k.meet p).1.wait.tail.length ≤ _
      rw [List.length_tail]
      omega
    · exact h1
  unfold Lk.take
  split
  · exact ⟨Nat.le_refl _, rfl⟩
  split
  · exact h1
  split
  · exact h2
  · exact h2

theorem Cn.wrote {a : Sd} {i : Nat} (h : Cn a i) (l : List Int) : Cn (a.wrote l) (i + 1) := by
  refine ⟨h.link.more, ?_, ?_, by have := h.told; show a.told.length ≤ _; omega, by have := h.out; show a.out.length ≤ _; omega, by have := h.inc; show a.k.inc ≤ _; omega⟩
  · show (a.k.wait ++ [l]).length ≤ i + 1
    have := h.wait
    rw [List.length_append, List.length_singleton]
    omega
  · show (a.sent ++ [l]).length ≤ i + 1
    have := h.sent
    rw [List.length_append, List.length_singleton]
    omega
theorem Cn.let_ {a : Sd} {i : Nat} (h : Cn a i) : Cn a.let_ (i + 1) := by
  refine ⟨h.link.more, by have := h.wait; show a.k.wait.length ≤ _; omega, by have := h.sent; show a.sent.length ≤ _; omega, by have := h.told; show a.told.length ≤ _; omega, ?_, by have := h.inc; show a.k.inc ≤ _; omega⟩
  show (a.out ++ [a.k.out]).length ≤ i + 1
  have := h.out
  rw [List.length_append, List.length_singleton]
  omega
theorem Cn.reset {a : Sd} {i : Nat} (h : Cn a i) (h1 : 1 ≤ a.k.inc) : Cn ⟨⟨a.k.inc + 1, 0, 0, 0, []⟩, [], [], a.out⟩ (i + 1) :=
  ⟨by unfold Lk.upto Lk.there; simp only; omega, by simp, by simp, by simp, by have := h.out; show a.out.length ≤ _; omega, by have := h.inc; show a.k.inc + 1 ≤ _; omega⟩
theorem Cn.took {a : Sd} {i : Nat} (h : Cn a i) (p : Pk) {sent told : List (List Int)} (hs : sent.length ≤ i + 1) (ht : told.length ≤ i + 1) : Cn ⟨(a.k.take p).2.2, sent, told, a.out⟩ (i + 1) := by
  have h1 := take_wait a.k p
  refine ⟨h.link.take p, by have := h.wait; show (a.k.take p).2.2.wait.length ≤ _; omega, hs, ht, by have := h.out; show a.out.length ≤ _; omega, ?_⟩
  show (a.k.take p).2.2.inc ≤ _
  rw [h1.2]
  have := h.inc
  omega
theorem slice_eq {H : Nat → Option Obj} {b : Nat} {x0 x1 x2 x4 : Value} {A A' : Option Addr} {n c : Nat} {T : TypeId} {fr : Nat × Nat} (h : H b = some (.cells #[x0, x1, x2, .slice A n c, x4] T fr)) (e : A = A') : H b = some (.cells #[x0, x1, x2, .slice A' n c, x4] T fr) := by
  rw [← e]
  exact h
theorem fdiv256 (x : Int) : x.fdiv (2 ^ (min (8 : Int).toNat IntKind.i64.bits)) = x / 256 := by
  rw [show (2 : Int) ^ (min (8 : Int).toNat IntKind.i64.bits) = 256 by decide]
  exact Int.fdiv_eq_ediv_of_nonneg _ (by decide)

set_option maxHeartbeats 16000000 in
theorem link_apart_c {F : Env} {w : World} {A : Option Addr} {n c : Nat} {xs : List Int} (hm : Mem F w []) (hr : Row F.heap A n (xs.map (Value.int .i64))) :
    Calls Try.prog 7 #[.slice A n c] w (Ret fun v w' => v = .bool true ∧ Mem F w' []) := by
  have hlen : xs.length = n := by have := hr.len; rwa [List.length_map] at this
  refine Calls.of_vc Try.func7 rfl Try.ntmps7 rfl ?_
  repeat (first | refine VC.seq ?_ | refine VC.block ?_ | refine VC.skip ?_)
  refine VC.region ?_
  refine VR.pure rfl rfl (p_assignB rfl) ?_
  refine VR.nil ?_
  repeat (first | refine VC.seq ?_ | refine VC.block ?_ | refine VC.skip ?_)
  refine VC.region ?_
  refine VR.call rfl rfl (r_call0 Try.call8) (awake_c hm) ?_
  rintro _ w ⟨rfl, hm⟩
  refine VR.pure rfl rfl (p_not rfl) ?_
  refine VR.nil ?_
  repeat (first | refine VC.seq ?_ | refine VC.block ?_ | refine VC.skip ?_)
  refine VC.condF rfl rfl ?_
  repeat (first | refine VC.seq ?_ | refine VC.block ?_ | refine VC.skip ?_)
  refine VC.region ?_
  refine VR.pure rfl rfl (p_moveL rfl) ?_
  refine VR.pure rfl rfl (p_len Try.underlying42 rfl) ?_
  refine VR.pure rfl rfl (p_gt rfl rfl) ?_
  refine VR.nil ?_
  repeat (first | refine VC.seq ?_ | refine VC.block ?_ | refine VC.skip ?_)
  refine VC.condD rfl (fun h300 => ?_) (fun h300 => ?_)
  · repeat (first | refine VC.seq ?_ | refine VC.block ?_ | refine VC.skip ?_)
    refine VC.region ?_
    refine VR.pure rfl rfl (p_assignB rfl) ?_
    refine VR.nil ?_
    repeat (first | refine VC.seq ?_ | refine VC.block ?_ | refine VC.skip ?_)
    refine VC.ret ⟨_, ResOf.r1 (v := .bool _) rfl rfl, ?_⟩
    exact ⟨rfl, hm⟩
  repeat (first | refine VC.seq ?_ | refine VC.block ?_ | refine VC.skip ?_)
  refine VC.region ?_
  refine VR.call rfl rfl (r_call1 Try.call15 rfl) (new_ok hm (by decide)) ?_
  rintro _ w ⟨l0, rfl, hm⟩
  refine VR.pure rfl rfl (p_build (vs := [(0, .pointer _), (1, .int _ _)]) bld46_0_1 rfl) ?_
  refine VR.new hm rfl rfl (n_boxG rfl) ?_
  intro g0 w hm
  refine VR.call rfl rfl (r_call1 Try.call15 rfl) (new_ok hm (by decide)) ?_
  rintro _ w ⟨l1, rfl, hm⟩
  refine VR.pure rfl rfl (p_build (vs := [(0, .pointer _), (1, .int _ _)]) bld46_0_1 rfl) ?_
  refine VR.new hm rfl rfl (n_boxG rfl) ?_
  intro g1 w hm
  refine VR.new hm rfl rfl (n_buildSlice1 (vs := [.pointer _, .pointer _]) Try.underlying47 inf43 rfl rfl rfl rfl rfl rfl rfl) ?_
  intro bs w hm
  refine VR.pure rfl rfl (p_assignL rfl) ?_
  refine VR.nil ?_
  replace hm : Mem F w ([(bs, .cells #[.pointer (some ⟨g0, 0, none⟩), .pointer (some ⟨g1, 0, none⟩)] 43 (0, 0))] ::
      [(g1, .cells #[.pointer (some ⟨l1, 0, none⟩), .int .i64 1, .slice none 0 0, .slice none 0 0, .slice none 0 0] 46 (0, 0))] :: [(l1, .cells #[.int .i64 1, .int .i64 0, .int .i64 0, .int .i64 0, .slice none 0 0] 33 (0, 0))] :: [] ::
      [(g0, .cells #[.pointer (some ⟨l0, 0, none⟩), .int .i64 1, .slice none 0 0, .slice none 0 0, .slice none 0 0] 46 (0, 0))] :: [(l0, .cells #[.int .i64 1, .int .i64 0, .int .i64 0, .int .i64 0, .slice none 0 0] 33 (0, 0))] :: [] :: []) := hm
  obtain ⟨G0, hu0, hm, hG0⟩ := hm.freeze
  have hbs := hG0 _ (.head _)
  have hduo : Duo G0 g1 l1 g0 l0 ⟨⟨1, 0, 0, 0, []⟩, [], [], []⟩ ⟨⟨1, 0, 0, 0, []⟩, [], [], []⟩ w :=
    ⟨G0, _, _, [], [], [], [], _, _, [], [], [], [], Env.under_refl _, ⟨LkAt.new _ 1, none, 0, 0, none, 0, 0, none, 0, 0, rfl, OL.nil _, OL.nil _, OP.nil _⟩, ⟨LkAt.new _ 1, none, 0, 0, none, 0, 0, none, 0, 0, rfl, OL.nil _, OL.nil _, OP.nil _⟩, hm.flat rfl⟩
  replace hduo := hduo.swap
  clear hm hG0
  replace hr := hr.mono hu0.heap
  repeat (first | refine VC.seq ?_ | refine VC.block ?_ | refine VC.skip ?_)
  refine VC.region ?_
  refine VR.pure rfl rfl (p_assignI rfl) ?_
  refine VR.nil ?_
  repeat (first | refine VC.seq ?_ | refine VC.block ?_ | refine VC.skip ?_)
  refine VC.region ?_
  refine VR.pure rfl rfl (p_assignI rfl) ?_
  refine VR.nil ?_
  repeat (first | refine VC.seq ?_ | refine VC.block ?_ | refine VC.skip ?_)
  refine VC.loop (σ := Nat × Nat) (fun s => [(0, .slice A n c), (3, .slice (some ⟨bs, 0, none⟩) 2 2), (4, .int .i64 s.2), (5, .int .i64 s.1)])
    (fun s w => s.1 ≤ n ∧ s.2 ≤ s.1 ∧ ∃ a b Sa Sb, Duo G0 g0 l0 g1 l1 a b w ∧ Ap 0 1 Sa Sb a b s.2 ∧ Cn a s.1 ∧ Cn b s.1) (fun s => n - s.1) (0, 0) ⟨rfl, rfl, rfl, rfl, trivial⟩ ⟨by omega, by omega, _, _, bk0, bk0, hduo, ⟨Out.new 0, Out.new 1, Told.new 1, Told.new 0⟩, Cn.zero, Cn.zero⟩ ?_
  clear hduo
  rintro ⟨i, T0⟩ A' w ⟨hi, hT0, a0, b0, Sa0, Sb0, hduo, hap, hca, hcb⟩
  dsimp only at hi hT0 hap hca hcb ⊢
  repeat (first | refine VC.seq ?_ | refine VC.block ?_ | refine VC.skip ?_)
  refine VC.region ?_
  refine VR.pure rfl rfl (p_moveI rfl) ?_
  refine VR.pure rfl rfl (p_moveL rfl) ?_
  refine VR.pure rfl rfl (p_len Try.underlying42 rfl) ?_
  refine VR.pure rfl rfl (p_lt rfl rfl) ?_
  refine VR.nil ?_
  repeat (first | refine VC.seq ?_ | refine VC.block ?_ | refine VC.skip ?_)
  refine VC.condD rfl (fun h => ?_) (fun h => ?_)
  · have hi' : i < n := by omega
    obtain ⟨x, hx, _⟩ := get_of (xs := xs) (k := i) (by omega)
    obtain ⟨b, off, blk, Tt, fr, rfl, hb, hc⟩ := Row.get hr (by omega)
    have hcx := (hc i hi').trans (ints_at hx)
    obtain ⟨q, hq, hq1⟩ : ∃ q : Nat, x % 2 = q ∧ q ≤ 1 := ⟨(x % 2).toNat, by omega, by omega⟩
    obtain ⟨gm, lm, go, lo, wa, wb, hwa, hwb, hgm, hgo, hsel, a, b1, Sa, Sb, hduo, hap, hca, hcb⟩ : ∃ gm lm go lo wa wb, wa = ((q : Nat) : Int) ∧ wb = ((1 - q : Nat) : Int) ∧ (#[Value.pointer (some ⟨g0, 0, none⟩), .pointer (some ⟨g1, 0, none⟩)])[0 + q]? = some (.pointer (some ⟨gm, 0, none⟩)) ∧
        (#[Value.pointer (some ⟨g0, 0, none⟩), .pointer (some ⟨g1, 0, none⟩)])[0 + (1 - q)]? = some (.pointer (some ⟨go, 0, none⟩)) ∧ ((gm, lm, go, lo, wa, wb) = (g0, l0, g1, l1, 0, 1) ∨ (gm, lm, go, lo, wa, wb) = (g1, l1, g0, l0, 1, 0)) ∧
        ∃ a b Sa Sb, Duo G0 gm lm go lo a b w ∧ Ap wa wb Sa Sb a b T0 ∧ Cn a i ∧ Cn b i := by
      rcases Nat.le_one_iff_eq_zero_or_eq_one.1 hq1 with rfl | rfl
      · exact ⟨g0, l0, g1, l1, 0, 1, rfl, rfl, rfl, rfl, .inl rfl, a0, b0, Sa0, Sb0, hduo, hap, hca, hcb⟩
      · exact ⟨g1, l1, g0, l0, 1, 0, rfl, rfl, rfl, rfl, .inr rfl, b0, a0, Sb0, Sa0, hduo.swap, hap.symm, hcb, hca⟩
    obtain ⟨G, cs, cl, W, S, T', O, ds, dl, Wo, So, To, Oo, hu, ⟨hk, A1, n1, c1, A2, n2, c2, A3, n3, c3, rfl, hS, hT, hO⟩, ⟨hk', A1', n1', c1', A2', n2', c2', A3', n3', c3', rfl, hS', hT', hO'⟩, hm⟩ := hduo
    have hok := hca.link.ok (by omega)
    have ht : a.k.there := hca.link.1
    have hwl := hca.wait
    have hinc := hca.inc
    have hinc1 := hap.oa.inc
    have hnext : ∀ w T1, T1 ≤ i + 1 → (∃ a b Sa Sb, Duo G0 gm lm go lo a b w ∧ Ap wa wb Sa Sb a b T1 ∧ Cn a (i + 1) ∧ Cn b (i + 1)) → ∃ a b Sa Sb, Duo G0 g0 l0 g1 l1 a b w ∧ Ap 0 1 Sa Sb a b T1 ∧ Cn a (i + 1) ∧ Cn b (i + 1) := by
      rintro w T1 hT1 ⟨a, b, Sa, Sb, h1, h2, h3, h4⟩
      rcases hsel with e | e
      · simp only [Prod.mk.injEq] at e
        obtain ⟨rfl, rfl, rfl, rfl, rfl, rfl⟩ := e
        exact ⟨a, b, Sa, Sb, h1, h2, h3, h4⟩
      · simp only [Prod.mk.injEq] at e
        obtain ⟨rfl, rfl, rfl, rfl, rfl, rfl⟩ := e
        exact ⟨b, a, Sb, Sa, h1.swap, h2.symm, h4, h3⟩
    repeat (first | refine VC.seq ?_ | refine VC.block ?_ | refine VC.skip ?_)
    refine VC.region ?_
    refine VR.pure rfl rfl (p_moveL rfl) ?_
    refine VR.pure rfl rfl (p_moveI rfl) ?_
    refine VR.pure rfl rfl (p_idx1 Try.underlying42 Try.sizeOf3 rfl rfl hi') ?_
    refine VR.val rfl rfl (r_load (v := .int _ _) Try.isAgg3 rfl (hm.fix _ _ (hu.heap _ _ hb)) hcx) ?_
    refine VR.pure rfl rfl (p_and1E rfl hq) ?_
    refine VR.pure rfl rfl (p_assignI rfl) ?_
    refine VR.nil ?_
    repeat (first | refine VC.seq ?_ | refine VC.block ?_ | refine VC.skip ?_)
    refine VC.loud (Kept G []) [] rfl (by kernel_rfl) (Kept.of0 hm.drew) ?_
    replace hm := hm.drew
    refine VL.pure rfl rfl rfl (p_moveL rfl) ?_
    refine VL.pure rfl rfl rfl (p_moveI rfl) ?_
    refine VL.pure rfl rfl rfl (p_idx1 Try.underlying47 Try.sizeOf43 rfl rfl (by omega : q < 2)) ?_
    refine VL.read rfl rfl rfl (fun w' hw' => r_load (v := .pointer _) Try.isAgg43 rfl (hw'.fix _ _ (hu.heap _ _ hbs)) hgm) ?_
    refine VL.pure rfl rfl rfl (p_moveL rfl) ?_
    refine VL.pure rfl rfl rfl (p_moveI rfl) ?_
    refine VL.pure rfl rfl rfl (p_sub64E (r := ((1 - q : Nat) : Int)) rfl rfl (by omega) (by omega)) ?_
    refine VL.pure rfl rfl rfl (p_idx1 Try.underlying47 Try.sizeOf43 rfl rfl (by omega : 1 - q < 2)) ?_
    refine VL.read rfl rfl rfl (fun w' hw' => r_load (v := .pointer _) Try.isAgg43 rfl (hw'.fix _ _ (hu.heap _ _ hbs)) hgo) ?_
    refine VL.pure rfl rfl rfl (p_assignP rfl) ?_
    refine VL.pure rfl rfl rfl (p_assignP rfl) ?_
    refine VL.nil ?_
    repeat (first | refine VC.seq ?_ | refine VC.block ?_ | refine VC.skip ?_)
    refine VC.region ?_
    refine VR.pure rfl rfl (p_moveL rfl) ?_
    refine VR.pure rfl rfl (p_moveI rfl) ?_
    refine VR.pure rfl rfl (p_idx1 Try.underlying42 Try.sizeOf3 rfl rfl hi') ?_
    refine VR.val rfl rfl (r_load (v := .int _ _) Try.isAgg3 rfl (hm.fix _ _ (hu.heap _ _ hb)) hcx) ?_
    refine VR.pure rfl rfl (p_shr rfl rfl (by decide)) ?_
    refine VR.call rfl rfl (r_call2 Try.call16 rfl rfl) (pick_c (by omega)) ?_
    rintro _ _ ⟨⟨kk, hkk, rfl⟩, rfl⟩
    refine VR.pure rfl rfl (p_assignI rfl) ?_
    refine VR.nil ?_
    repeat (first | refine VC.seq ?_ | refine VC.block ?_ | refine VC.skip ?_)
    refine VC.region ?_
    refine VR.pure rfl rfl (p_moveI rfl) ?_
    refine VR.pure rfl rfl (p_rem64 rfl rfl (by omega) (by omega)) ?_
    refine VR.nil ?_
    refine VC.meet (σ := Nat) (fun T1 => [(0, .slice (some ⟨b, off, none⟩) n c), (3, .slice (some ⟨bs, 0, none⟩) 2 2), (4, .int .i64 T1), (5, .int .i64 i)])
      (fun T1 w => T1 ≤ i + 1 ∧ ∃ a b Sa Sb, Duo G0 gm lm go lo a b w ∧ Ap wa wb Sa Sb a b T1 ∧ Cn a (i + 1) ∧ Cn b (i + 1)) ?_ ?_
    · refine VC.block ?_
      repeat (first | refine VC.seq ?_ | refine VC.block ?_ | refine VC.skip ?_)
      refine VC.region ?_
      refine VR.pure rfl rfl (p_eq rfl rfl) ?_
      refine VR.pure rfl rfl (p_assignB rfl) ?_
      refine VR.nil ?_
      repeat (first | refine VC.seq ?_ | refine VC.block ?_ | refine VC.skip ?_)
      refine VC.condD rfl (fun hc0 => ?_) (fun hc0 => ?_)
      · repeat (first | refine VC.seq ?_ | refine VC.block ?_ | refine VC.skip ?_)
        refine VC.condT rfl (decide_eq_true hc0) ?_
        repeat (first | refine VC.seq ?_ | refine VC.block ?_ | refine VC.skip ?_)
        refine VC.region ?_
        refine VR.pure rfl rfl (p_moveI rfl) ?_
        refine VR.pure rfl rfl (p_add64E (r := ((T0 + 1 : Nat) : Int)) rfl rfl (by omega) (by omega)) ?_
        refine VR.pure rfl rfl (p_assignI rfl) ?_
        refine VR.nil ?_
        repeat (first | refine VC.seq ?_ | refine VC.block ?_ | refine VC.skip ?_)
        refine VC.region ?_
        refine VR.pure rfl rfl (p_moveI rfl) ?_
        refine VR.pure rfl rfl (p_conv Try.underlying3 Try.underlying5 rfl) ?_
        refine VR.pure rfl rfl (p_moveP rfl) ?_
        refine VR.pure rfl rfl (p_nilCheck rfl) ?_
        refine VR.pure rfl rfl (p_field (fo := 1) Try.underlying46 rfl Try.sizeOf3 rfl rfl rfl) ?_
        refine VR.val rfl rfl (r_load (v := .int _ _) Try.isAgg3 rfl (hm.at_ 0 0 rfl) rfl) ?_
        refine VR.pure rfl rfl (p_conv Try.underlying3 Try.underlying5 rfl) ?_
        refine VR.pure rfl rfl (p_moveI rfl) ?_
        refine VR.pure rfl rfl (p_conv Try.underlying3 Try.underlying5 rfl) ?_
        refine VR.pure rfl rfl (p_moveI rfl) ?_
        refine VR.pure rfl rfl (p_shrE rfl rfl (by decide) (fdiv256 _)) ?_
        refine VR.pure rfl rfl (p_conv Try.underlying3 Try.underlying5 rfl) ?_
        refine VR.new hm rfl rfl (n_buildSlice1 (vs := [.int _ _, .int _ _, .int _ _, .int _ _]) Try.underlying22 inf5 rfl rfl rfl rfl rfl rfl rfl) ?_
        intro b25 w hm
        refine VR.pure rfl rfl (p_assignL rfl) ?_
        refine VR.nil ?_
        obtain ⟨G1, hu1, hm, hG1⟩ := hm.freeze
        have hrow : BRow G1.heap (some ⟨b25, 0, none⟩) 4 (enc wa a.k.inc (T0 + 1)) := by
          rw [hwa]
          exact Row.lit (cs := [.int .u8 _, .int .u8 _, .int .u8 _, .int .u8 _]) (hG1 _ (.head _))
        have hm1 := ((hm.pull 2 rfl).pull 2 rfl)
        replace hm : Mem G1 _ ([(lm, .cells cl 33 (0, 0))] :: W :: [(gm, .cells #[.pointer (some ⟨lm, 0, none⟩), .int .i64 a.k.inc, .slice A1 n1 c1, .slice A2 n2 c2, .slice A3 n3 c3] 46 (0, 0))] :: S :: T' :: O :: [(go, .cells #[.pointer (some ⟨lo, 0, none⟩), .int .i64 b1.k.inc, .slice A1' n1' c1', .slice A2' n2' c2', .slice A3' n3' c3'] 46 (0, 0))] :: [(lo, .cells dl 33 (0, 0))] :: Wo :: So :: To :: Oo :: []) := hm1
        clear hm1
        have es := send_any (l := enc wa a.k.inc (T0 + 1)) ht (by simp [enc]) (by omega)
        have hcon := send_c hm (hk.mono hu1.heap) hrow (d := 4)
        rw [es] at hcon
        repeat (first | refine VC.seq ?_ | refine VC.block ?_ | refine VC.skip ?_)
        refine VC.region ?_
        refine VR.pure rfl rfl (p_moveP rfl) ?_
        refine VR.pure rfl rfl (p_nilCheck rfl) ?_
        refine VR.pure rfl rfl (p_field (fo := 0) Try.underlying46 rfl Try.sizeOf26 rfl rfl rfl) ?_
        refine VR.val rfl rfl (r_load (v := .pointer _) Try.isAgg26 rfl (hm.at_ 2 0 rfl) rfl) ?_
        refine VR.pure rfl rfl (p_moveL rfl) ?_
        refine VR.call rfl rfl (r_call2 Try.call10 rfl rfl) (hcon) ?_
        rintro _ w ⟨G2, cl2, W2, rfl, hu2, hk2, hm⟩
        refine VR.pure rfl rfl (p_eq rfl rfl) ?_
        refine VR.nil ?_
        repeat (first | refine VC.seq ?_ | refine VC.block ?_ | refine VC.skip ?_)
        refine VC.condT rfl rfl ?_
        have hn1 : n1 ≤ 300 := by have := hS.len; have := hca.sent; omega
        obtain ⟨ws, hS1, hS2, hS3⟩ := hS
        repeat (first | refine VC.seq ?_ | refine VC.block ?_ | refine VC.skip ?_)
        refine VC.region ?_
        refine VR.pure rfl rfl (p_moveP rfl) ?_
        refine VR.pure rfl rfl (p_moveP rfl) ?_
        refine VR.pure rfl rfl (p_nilCheck rfl) ?_
        refine VR.pure rfl rfl (p_field (fo := 2) Try.underlying46 rfl Try.sizeOf29 rfl rfl rfl) ?_
        refine VR.val rfl rfl (r_load (v := .slice _ _ _) Try.isAgg29 rfl (hm.at_ 2 0 rfl) rfl) ?_
        refine VR.pure rfl rfl (p_moveL rfl) ?_
        refine VR.new hm rfl rfl (n_buildSlice1 (vs := [.slice _ _ _]) Try.underlying29 inf22 rfl rfl rfl rfl rfl rfl rfl) ?_
        intro b23 w hm
        replace hm := (hm.pull 4 rfl)
        refine VR.append (s := 1) (bytes := 24) Try.underlying29 inf22 rfl rfl rfl rfl rfl rfl rfl rfl rfl hm hS1 (Row.lit (cs := [.slice (some ⟨b25, 0, none⟩) 4 4]) (hm.at_ 1 0 rfl)) (by simp [Value.oneCell']) rfl ⟨by unfold maxLen; omega, by omega⟩ ?_
        intro A9 c9 w S9 hS9 hm
        refine VR.pure rfl rfl (p_nilCheck rfl) ?_
        refine VR.pure rfl rfl (p_field (fo := 2) Try.underlying46 rfl Try.sizeOf29 rfl rfl rfl) ?_
        refine VR.store (cs' := #[.pointer (some ⟨lm, 0, none⟩), .int .i64 a.k.inc, .slice A9 (n1 + 1) c9, .slice A2 n2 c2, .slice A3 n3 c3]) (v := .slice _ _ _) Try.sizeOf29 rfl rfl rfl rfl rfl hm 4 0 rfl (Nat.ble_eq.mp rfl) rfl ?_
        intro w hm
        refine VR.nil ?_
        have hu12 := (hu1.trans hu2).heap
        exact ⟨T0 + 1, ⟨rfl, rfl, rfl, rfl, trivial⟩, by omega, a.wrote (enc wa a.k.inc (T0 + 1)), b1, bkSend Sa a T0, Sb, ⟨G2, _, cl2, W2, S9, T', O, _, dl, Wo, So, To, Oo, (hu.trans hu1).trans hu2,
          ⟨hk2, A9, n1 + 1, c9, A2, n2, c2, A3, n3, c3, rfl, OL.push hS2 (fun b hb => ⟨(hS3 b hb).1.mono hu12, (hS3 b hb).2⟩) hS9 (hrow.mono hu2.heap) (by unfold maxLen; omega), hT.mono hu12, hO.mono hu12⟩,
          ⟨hk'.mono hu12, A1', n1', c1', A2', n2', c2', A3', n3', c3', rfl, hS'.mono hu12, hT'.mono hu12, hO'.mono hu12⟩, (((hm.pop2.pull 2 rfl).pull 2 rfl).pull 3 rfl)⟩, hap.send, hca.wrote _, hcb.more⟩
      · repeat (first | refine VC.seq ?_ | refine VC.block ?_ | refine VC.skip ?_)
        refine VC.region ?_
        refine VR.pure rfl rfl (p_eq rfl rfl) ?_
        refine VR.pure rfl rfl (p_assignB rfl) ?_
        refine VR.nil ?_
        repeat (first | refine VC.seq ?_ | refine VC.block ?_ | refine VC.skip ?_)
        refine VC.condD rfl (fun hc1 => ?_) (fun hc1 => ?_)
        · repeat (first | refine VC.seq ?_ | refine VC.block ?_ | refine VC.skip ?_)
          refine VC.region ?_
          refine VR.pure rfl rfl (p_moveI rfl) ?_
          refine VR.pure rfl rfl (p_add64E (r := ((T0 + 1 : Nat) : Int)) rfl rfl (by omega) (by omega)) ?_
          refine VR.pure rfl rfl (p_assignI rfl) ?_
          refine VR.nil ?_
          repeat (first | refine VC.seq ?_ | refine VC.block ?_ | refine VC.skip ?_)
          refine VC.region ?_
          refine VR.pure rfl rfl (p_moveI rfl) ?_
          refine VR.pure rfl rfl (p_conv Try.underlying3 Try.underlying5 rfl) ?_
          refine VR.pure rfl rfl (p_moveP rfl) ?_
          refine VR.pure rfl rfl (p_nilCheck rfl) ?_
          refine VR.pure rfl rfl (p_field (fo := 1) Try.underlying46 rfl Try.sizeOf3 rfl rfl rfl) ?_
          refine VR.val rfl rfl (r_load (v := .int _ _) Try.isAgg3 rfl (hm.at_ 0 0 rfl) rfl) ?_
          refine VR.pure rfl rfl (p_conv Try.underlying3 Try.underlying5 rfl) ?_
          refine VR.pure rfl rfl (p_moveI rfl) ?_
          refine VR.pure rfl rfl (p_conv Try.underlying3 Try.underlying5 rfl) ?_
          refine VR.pure rfl rfl (p_moveI rfl) ?_
          refine VR.pure rfl rfl (p_shrE rfl rfl (by decide) (fdiv256 _)) ?_
          refine VR.pure rfl rfl (p_conv Try.underlying3 Try.underlying5 rfl) ?_
          refine VR.new hm rfl rfl (n_buildSlice1 (vs := [.int _ _, .int _ _, .int _ _, .int _ _]) Try.underlying22 inf5 rfl rfl rfl rfl rfl rfl rfl) ?_
          intro b25 w hm
          refine VR.pure rfl rfl (p_assignL rfl) ?_
          refine VR.nil ?_
          obtain ⟨G1, hu1, hm, hG1⟩ := hm.freeze
          have hrow : BRow G1.heap (some ⟨b25, 0, none⟩) 4 (enc wa a.k.inc (T0 + 1)) := by
            rw [hwa]
            exact Row.lit (cs := [.int .u8 _, .int .u8 _, .int .u8 _, .int .u8 _]) (hG1 _ (.head _))
          have hm1 := ((hm.pull 2 rfl).pull 2 rfl)
          replace hm : Mem G1 _ ([(lm, .cells cl 33 (0, 0))] :: W :: [(gm, .cells #[.pointer (some ⟨lm, 0, none⟩), .int .i64 a.k.inc, .slice A1 n1 c1, .slice A2 n2 c2, .slice A3 n3 c3] 46 (0, 0))] :: S :: T' :: O :: [(go, .cells #[.pointer (some ⟨lo, 0, none⟩), .int .i64 b1.k.inc, .slice A1' n1' c1', .slice A2' n2' c2', .slice A3' n3' c3'] 46 (0, 0))] :: [(lo, .cells dl 33 (0, 0))] :: Wo :: So :: To :: Oo :: []) := hm1
          clear hm1
          have es := send_any (l := enc wa a.k.inc (T0 + 1)) ht (by simp [enc]) (by omega)
          have hcon := send_c hm (hk.mono hu1.heap) hrow (d := 4)
          rw [es] at hcon
          repeat (first | refine VC.seq ?_ | refine VC.block ?_ | refine VC.skip ?_)
          refine VC.region ?_
          refine VR.pure rfl rfl (p_moveP rfl) ?_
          refine VR.pure rfl rfl (p_nilCheck rfl) ?_
          refine VR.pure rfl rfl (p_field (fo := 0) Try.underlying46 rfl Try.sizeOf26 rfl rfl rfl) ?_
          refine VR.val rfl rfl (r_load (v := .pointer _) Try.isAgg26 rfl (hm.at_ 2 0 rfl) rfl) ?_
          refine VR.pure rfl rfl (p_moveL rfl) ?_
          refine VR.call rfl rfl (r_call2 Try.call10 rfl rfl) (hcon) ?_
          rintro _ w ⟨G2, cl2, W2, rfl, hu2, hk2, hm⟩
          refine VR.pure rfl rfl (p_eq rfl rfl) ?_
          refine VR.nil ?_
          repeat (first | refine VC.seq ?_ | refine VC.block ?_ | refine VC.skip ?_)
          refine VC.condT rfl rfl ?_
          have hn1 : n1 ≤ 300 := by have := hS.len; have := hca.sent; omega
          obtain ⟨ws, hS1, hS2, hS3⟩ := hS
          repeat (first | refine VC.seq ?_ | refine VC.block ?_ | refine VC.skip ?_)
          refine VC.region ?_
          refine VR.pure rfl rfl (p_moveP rfl) ?_
          refine VR.pure rfl rfl (p_moveP rfl) ?_
          refine VR.pure rfl rfl (p_nilCheck rfl) ?_
          refine VR.pure rfl rfl (p_field (fo := 2) Try.underlying46 rfl Try.sizeOf29 rfl rfl rfl) ?_
          refine VR.val rfl rfl (r_load (v := .slice _ _ _) Try.isAgg29 rfl (hm.at_ 2 0 rfl) rfl) ?_
          refine VR.pure rfl rfl (p_moveL rfl) ?_
          refine VR.new hm rfl rfl (n_buildSlice1 (vs := [.slice _ _ _]) Try.underlying29 inf22 rfl rfl rfl rfl rfl rfl rfl) ?_
          intro b23 w hm
          replace hm := (hm.pull 4 rfl)
          refine VR.append (s := 1) (bytes := 24) Try.underlying29 inf22 rfl rfl rfl rfl rfl rfl rfl rfl rfl hm hS1 (Row.lit (cs := [.slice (some ⟨b25, 0, none⟩) 4 4]) (hm.at_ 1 0 rfl)) (by simp [Value.oneCell']) rfl ⟨by unfold maxLen; omega, by omega⟩ ?_
          intro A9 c9 w S9 hS9 hm
          refine VR.pure rfl rfl (p_nilCheck rfl) ?_
          refine VR.pure rfl rfl (p_field (fo := 2) Try.underlying46 rfl Try.sizeOf29 rfl rfl rfl) ?_
          refine VR.store (cs' := #[.pointer (some ⟨lm, 0, none⟩), .int .i64 a.k.inc, .slice A9 (n1 + 1) c9, .slice A2 n2 c2, .slice A3 n3 c3]) (v := .slice _ _ _) Try.sizeOf29 rfl rfl rfl rfl rfl hm 4 0 rfl (Nat.ble_eq.mp rfl) rfl ?_
          intro w hm
          refine VR.nil ?_
          have hu12 := (hu1.trans hu2).heap
          exact ⟨T0 + 1, ⟨rfl, rfl, rfl, rfl, trivial⟩, by omega, a.wrote (enc wa a.k.inc (T0 + 1)), b1, bkSend Sa a T0, Sb, ⟨G2, _, cl2, W2, S9, T', O, _, dl, Wo, So, To, Oo, (hu.trans hu1).trans hu2,
            ⟨hk2, A9, n1 + 1, c9, A2, n2, c2, A3, n3, c3, rfl, OL.push hS2 (fun b hb => ⟨(hS3 b hb).1.mono hu12, (hS3 b hb).2⟩) hS9 (hrow.mono hu2.heap) (by unfold maxLen; omega), hT.mono hu12, hO.mono hu12⟩,
            ⟨hk'.mono hu12, A1', n1', c1', A2', n2', c2', A3', n3', c3', rfl, hS'.mono hu12, hT'.mono hu12, hO'.mono hu12⟩, (((hm.pop2.pull 2 rfl).pull 2 rfl).pull 3 rfl)⟩, hap.send, hca.wrote _, hcb.more⟩
        · repeat (first | refine VC.seq ?_ | refine VC.block ?_ | refine VC.skip ?_)
          refine VC.region ?_
          refine VR.pure rfl rfl (p_eq rfl rfl) ?_
          refine VR.pure rfl rfl (p_assignB rfl) ?_
          refine VR.nil ?_
          repeat (first | refine VC.seq ?_ | refine VC.block ?_ | refine VC.skip ?_)
          refine VC.condD rfl (fun hc2 => ?_) (fun hc2 => ?_)
          · repeat (first | refine VC.seq ?_ | refine VC.block ?_ | refine VC.skip ?_)
            refine VC.condT rfl (decide_eq_true hc2) ?_
            have hn3 : n3 ≤ 300 := by have := hO.len; have := hca.out; omega
            have hkm := hk.small
            obtain ⟨ps, hO1, hO2, hO3⟩ := hO
            have hm1 := ((hm.pull 2 rfl).pull 2 rfl)
            replace hm : Mem G _ ([(lm, .cells cl 33 (0, 0))] :: W :: [(gm, .cells #[.pointer (some ⟨lm, 0, none⟩), .int .i64 a.k.inc, .slice A1 n1 c1, .slice A2 n2 c2, .slice A3 n3 c3] 46 (0, 0))] :: S :: T' :: O :: [(go, .cells #[.pointer (some ⟨lo, 0, none⟩), .int .i64 b1.k.inc, .slice A1' n1' c1', .slice A2' n2' c2', .slice A3' n3' c3'] 46 (0, 0))] :: [(lo, .cells dl 33 (0, 0))] :: Wo :: So :: To :: Oo :: []) := hm1
            clear hm1
            repeat (first | refine VC.seq ?_ | refine VC.block ?_ | refine VC.skip ?_)
            refine VC.free (Kept F []) [4, 8, 9, 10, 11, 14] rfl (by kernel_rfl) (Kept.of0 ((hm.drew.shrink hu).shrink hu0)) ?_
            replace hm := hm.drew
            refine VD.pure 0 rfl (by kernel_rfl) rfl rfl (p_moveP rfl) ?_
            refine VD.pure 1 rfl (by kernel_rfl) rfl rfl (p_moveP rfl) ?_
            refine VD.pure 2 rfl (by kernel_rfl) rfl rfl (p_nilCheck rfl) ?_
            refine VD.pure 3 rfl (by kernel_rfl) rfl rfl (p_field (fo := 4) Try.underlying46 rfl Try.sizeOf44 rfl rfl rfl) ?_
            refine VD.pure 5 rfl (by kernel_rfl) rfl rfl (p_moveP rfl) ?_
            refine VD.pure 6 rfl (by kernel_rfl) rfl rfl (p_nilCheck rfl) ?_
            refine VD.pure 7 rfl (by kernel_rfl) rfl rfl (p_field (fo := 0) Try.underlying46 rfl Try.sizeOf26 rfl rfl rfl) ?_
            refine VD.turn2 4 8 (by kernel_rfl) ?_ ?_
            refine VDT.val rfl rfl rfl (r_load (v := .slice _ _ _) Try.isAgg44 rfl (hm.at_ 2 0 rfl) rfl) (Kept.of0 ((hm.shrink hu).shrink hu0)) ?_
            refine VD.turn1 8 (by kernel_rfl) ?_
            refine VDT.val rfl rfl rfl (r_load (v := .pointer _) Try.isAgg26 rfl (hm.at_ 2 0 rfl) rfl) (Kept.of0 ((hm.shrink hu).shrink hu0)) ?_
            refine VD.turn1 9 (by kernel_rfl) ?_
            refine VDT.call rfl rfl rfl (r_call1 Try.call14 rfl) (out_c hm hk hok) ?_
            rintro _ w ⟨A9, c9, M9, rfl, ho9, hm⟩
            refine ⟨Kept.of0 ((hm.shrink hu).shrink hu0), ?_⟩
            refine VD.turn1 10 (by kernel_rfl) ?_
            refine VDT.new hm rfl rfl rfl (n_buildSlice (vs := [.agg _]) Try.underlying44 inf24 rfl rfl rfl rfl rfl rfl) (fun b' w' hm' => Kept.of0 ((hm'.shrink hu).shrink hu0)) ?_
            intro b10 w hm
            replace hm := (hm.pull 7 rfl)
            refine VD.turn1 11 (by kernel_rfl) ?_
            refine VDT.append (s := 5) (bytes := 56) Try.underlying44 inf24 rfl rfl rfl rfl rfl rfl rfl rfl rfl rfl hm hO1 (Row.lit (cs := [.int .i64 a.k.out.from_, .int .i64 a.k.out.to, .int .i64 a.k.out.seq, .int .i64 a.k.out.ack, .slice A9 a.k.out.load.length c9]) (hm.at_ 1 0 rfl)) (by simp [Value.oneCell']) rfl ⟨by unfold maxLen; omega, by omega⟩ (fun A' c' w' L' ho' hm' => Kept.of0 ((hm'.shrink hu).shrink hu0)) ?_
            intro A8 c8 w O8 hO8 hm
            refine VD.pure 12 rfl (by kernel_rfl) rfl rfl (p_nilCheck rfl) ?_
            refine VD.pure 13 rfl (by kernel_rfl) rfl rfl (p_field (fo := 4) Try.underlying46 rfl Try.sizeOf44 rfl rfl rfl) ?_
            refine VD.turn1 14 (by kernel_rfl) ?_
            refine VDT.store (cs' := #[.pointer (some ⟨lm, 0, none⟩), .int .i64 a.k.inc, .slice A1 n1 c1, .slice A2 n2 c2, .slice A8 (n3 + 1) c8]) (v := .slice _ _ _) Try.sizeOf44 rfl rfl rfl rfl rfl rfl hm 5 0 rfl (Nat.ble_eq.mp rfl) rfl (fun w' hm' => Kept.of0 ((hm'.shrink hu).shrink hu0)) ?_
            intro w hm
            refine VD.nil (by kernel_rfl) rfl ?_
            rotate_left 1
            refine VDT.val rfl rfl rfl (r_load (v := .pointer _) Try.isAgg26 rfl (hm.at_ 2 0 rfl) rfl) (Kept.of0 ((hm.shrink hu).shrink hu0)) ?_
            refine VD.turn2 4 9 (by kernel_rfl) ?_ ?_
            refine VDT.val rfl rfl rfl (r_load (v := .slice _ _ _) Try.isAgg44 rfl (hm.at_ 2 0 rfl) rfl) (Kept.of0 ((hm.shrink hu).shrink hu0)) ?_
            refine VD.turn1 9 (by kernel_rfl) ?_
            refine VDT.call rfl rfl rfl (r_call1 Try.call14 rfl) (out_c hm hk hok) ?_
            rintro _ w ⟨A9, c9, M9, rfl, ho9, hm⟩
            refine ⟨Kept.of0 ((hm.shrink hu).shrink hu0), ?_⟩
            refine VD.turn1 10 (by kernel_rfl) ?_
            refine VDT.new hm rfl rfl rfl (n_buildSlice (vs := [.agg _]) Try.underlying44 inf24 rfl rfl rfl rfl rfl rfl) (fun b' w' hm' => Kept.of0 ((hm'.shrink hu).shrink hu0)) ?_
            intro b10 w hm
            replace hm := (hm.pull 7 rfl)
            refine VD.turn1 11 (by kernel_rfl) ?_
            refine VDT.append (s := 5) (bytes := 56) Try.underlying44 inf24 rfl rfl rfl rfl rfl rfl rfl rfl rfl rfl hm hO1 (Row.lit (cs := [.int .i64 a.k.out.from_, .int .i64 a.k.out.to, .int .i64 a.k.out.seq, .int .i64 a.k.out.ack, .slice A9 a.k.out.load.length c9]) (hm.at_ 1 0 rfl)) (by simp [Value.oneCell']) rfl ⟨by unfold maxLen; omega, by omega⟩ (fun A' c' w' L' ho' hm' => Kept.of0 ((hm'.shrink hu).shrink hu0)) ?_
            intro A8 c8 w O8 hO8 hm
            refine VD.pure 12 rfl (by kernel_rfl) rfl rfl (p_nilCheck rfl) ?_
            refine VD.pure 13 rfl (by kernel_rfl) rfl rfl (p_field (fo := 4) Try.underlying46 rfl Try.sizeOf44 rfl rfl rfl) ?_
            refine VD.turn1 14 (by kernel_rfl) ?_
            refine VDT.store (cs' := #[.pointer (some ⟨lm, 0, none⟩), .int .i64 a.k.inc, .slice A1 n1 c1, .slice A2 n2 c2, .slice A8 (n3 + 1) c8]) (v := .slice _ _ _) Try.sizeOf44 rfl rfl rfl rfl rfl rfl hm 5 0 rfl (Nat.ble_eq.mp rfl) rfl (fun w' hm' => Kept.of0 ((hm'.shrink hu).shrink hu0)) ?_
            intro w hm
            refine VD.nil (by kernel_rfl) rfl ?_
            rotate_left 1
            refine VDT.call rfl rfl rfl (r_call1 Try.call14 rfl) (out_c hm hk hok) ?_
            rintro _ w ⟨A9, c9, M9, rfl, ho9, hm⟩
            refine ⟨Kept.of0 ((hm.shrink hu).shrink hu0), ?_⟩
            refine VD.turn2 4 10 (by kernel_rfl) ?_ ?_
            refine VDT.val rfl rfl rfl (r_load (v := .slice _ _ _) Try.isAgg44 rfl (hm.at_ 3 0 rfl) rfl) (Kept.of0 ((hm.shrink hu).shrink hu0)) ?_
            refine VD.turn1 10 (by kernel_rfl) ?_
            refine VDT.new hm rfl rfl rfl (n_buildSlice (vs := [.agg _]) Try.underlying44 inf24 rfl rfl rfl rfl rfl rfl) (fun b' w' hm' => Kept.of0 ((hm'.shrink hu).shrink hu0)) ?_
            intro b10 w hm
            replace hm := (hm.pull 7 rfl)
            refine VD.turn1 11 (by kernel_rfl) ?_
            refine VDT.append (s := 5) (bytes := 56) Try.underlying44 inf24 rfl rfl rfl rfl rfl rfl rfl rfl rfl rfl hm hO1 (Row.lit (cs := [.int .i64 a.k.out.from_, .int .i64 a.k.out.to, .int .i64 a.k.out.seq, .int .i64 a.k.out.ack, .slice A9 a.k.out.load.length c9]) (hm.at_ 1 0 rfl)) (by simp [Value.oneCell']) rfl ⟨by unfold maxLen; omega, by omega⟩ (fun A' c' w' L' ho' hm' => Kept.of0 ((hm'.shrink hu).shrink hu0)) ?_
            intro A8 c8 w O8 hO8 hm
            refine VD.pure 12 rfl (by kernel_rfl) rfl rfl (p_nilCheck rfl) ?_
            refine VD.pure 13 rfl (by kernel_rfl) rfl rfl (p_field (fo := 4) Try.underlying46 rfl Try.sizeOf44 rfl rfl rfl) ?_
            refine VD.turn1 14 (by kernel_rfl) ?_
            refine VDT.store (cs' := #[.pointer (some ⟨lm, 0, none⟩), .int .i64 a.k.inc, .slice A1 n1 c1, .slice A2 n2 c2, .slice A8 (n3 + 1) c8]) (v := .slice _ _ _) Try.sizeOf44 rfl rfl rfl rfl rfl rfl hm 5 0 rfl (Nat.ble_eq.mp rfl) rfl (fun w' hm' => Kept.of0 ((hm'.shrink hu).shrink hu0)) ?_
            intro w hm
            refine VD.nil (by kernel_rfl) rfl ?_
            rotate_left 1
            refine VDT.new hm rfl rfl rfl (n_buildSlice (vs := [.agg _]) Try.underlying44 inf24 rfl rfl rfl rfl rfl rfl) (fun b' w' hm' => Kept.of0 ((hm'.shrink hu).shrink hu0)) ?_
            intro b10 w hm
            refine VD.turn1 4 (by kernel_rfl) ?_
            refine VDT.val rfl rfl rfl (r_load (v := .slice _ _ _) Try.isAgg44 rfl (hm.at_ 4 0 rfl) rfl) (Kept.of0 ((hm.shrink hu).shrink hu0)) ?_
            replace hm := (hm.pull 7 rfl)
            refine VD.turn1 11 (by kernel_rfl) ?_
            refine VDT.append (s := 5) (bytes := 56) Try.underlying44 inf24 rfl rfl rfl rfl rfl rfl rfl rfl rfl rfl hm hO1 (Row.lit (cs := [.int .i64 a.k.out.from_, .int .i64 a.k.out.to, .int .i64 a.k.out.seq, .int .i64 a.k.out.ack, .slice A9 a.k.out.load.length c9]) (hm.at_ 1 0 rfl)) (by simp [Value.oneCell']) rfl ⟨by unfold maxLen; omega, by omega⟩ (fun A' c' w' L' ho' hm' => Kept.of0 ((hm'.shrink hu).shrink hu0)) ?_
            intro A8 c8 w O8 hO8 hm
            refine VD.pure 12 rfl (by kernel_rfl) rfl rfl (p_nilCheck rfl) ?_
            refine VD.pure 13 rfl (by kernel_rfl) rfl rfl (p_field (fo := 4) Try.underlying46 rfl Try.sizeOf44 rfl rfl rfl) ?_
            refine VD.turn1 14 (by kernel_rfl) ?_
            refine VDT.store (cs' := #[.pointer (some ⟨lm, 0, none⟩), .int .i64 a.k.inc, .slice A1 n1 c1, .slice A2 n2 c2, .slice A8 (n3 + 1) c8]) (v := .slice _ _ _) Try.sizeOf44 rfl rfl rfl rfl rfl rfl hm 5 0 rfl (Nat.ble_eq.mp rfl) rfl (fun w' hm' => Kept.of0 ((hm'.shrink hu).shrink hu0)) ?_
            intro w hm
            refine VD.nil (by kernel_rfl) rfl ?_
            rotate_left 1
            all_goals
              obtain ⟨G1, hu1, hm, hG1⟩ := hm.pop2.swap.freeze
              exact ⟨T0, ⟨rfl, rfl, rfl, rfl, trivial⟩, by omega, a.let_, b1, Sa, Sb, ⟨G1, _, cl, W, S, T', O8, _, dl, Wo, So, To, Oo, hu.trans hu1,
                ⟨hk.mono hu1.heap, A1, n1, c1, A2, n2, c2, A8, n3 + 1, c8, rfl, hS.mono hu1.heap, hT.mono hu1.heap, OP.push hO2 (fun x hx => (hO3 x hx).mono hu1.heap) hO8 (ho9.row1 hG1) hkm⟩,
                ⟨hk'.mono hu1.heap, A1', n1', c1', A2', n2', c2', A3', n3', c3', rfl, hS'.mono hu1.heap, hT'.mono hu1.heap, hO'.mono hu1.heap⟩, (((((hm.pull 5 rfl).pull 5 rfl).pull 4 rfl).pull 4 rfl).pull 5 rfl)⟩, hap.let_, hca.let_, hcb.more⟩
          · repeat (first | refine VC.seq ?_ | refine VC.block ?_ | refine VC.skip ?_)
            refine VC.region ?_
            refine VR.pure rfl rfl (p_eq rfl rfl) ?_
            refine VR.pure rfl rfl (p_assignB rfl) ?_
            refine VR.nil ?_
            repeat (first | refine VC.seq ?_ | refine VC.block ?_ | refine VC.skip ?_)
            refine VC.condD rfl (fun hc3 => ?_) (fun hc3 => ?_)
            · have hn3 : n3 ≤ 300 := by have := hO.len; have := hca.out; omega
              have hkm := hk.small
              obtain ⟨ps, hO1, hO2, hO3⟩ := hO
              have hm1 := ((hm.pull 2 rfl).pull 2 rfl)
              replace hm : Mem G _ ([(lm, .cells cl 33 (0, 0))] :: W :: [(gm, .cells #[.pointer (some ⟨lm, 0, none⟩), .int .i64 a.k.inc, .slice A1 n1 c1, .slice A2 n2 c2, .slice A3 n3 c3] 46 (0, 0))] :: S :: T' :: O :: [(go, .cells #[.pointer (some ⟨lo, 0, none⟩), .int .i64 b1.k.inc, .slice A1' n1' c1', .slice A2' n2' c2', .slice A3' n3' c3'] 46 (0, 0))] :: [(lo, .cells dl 33 (0, 0))] :: Wo :: So :: To :: Oo :: []) := hm1
              clear hm1
              repeat (first | refine VC.seq ?_ | refine VC.block ?_ | refine VC.skip ?_)
              refine VC.free (Kept F []) [4, 8, 9, 10, 11, 14] rfl (by kernel_rfl) (Kept.of0 ((hm.drew.shrink hu).shrink hu0)) ?_
              replace hm := hm.drew
              refine VD.pure 0 rfl (by kernel_rfl) rfl rfl (p_moveP rfl) ?_
              refine VD.pure 1 rfl (by kernel_rfl) rfl rfl (p_moveP rfl) ?_
              refine VD.pure 2 rfl (by kernel_rfl) rfl rfl (p_nilCheck rfl) ?_
              refine VD.pure 3 rfl (by kernel_rfl) rfl rfl (p_field (fo := 4) Try.underlying46 rfl Try.sizeOf44 rfl rfl rfl) ?_
              refine VD.pure 5 rfl (by kernel_rfl) rfl rfl (p_moveP rfl) ?_
              refine VD.pure 6 rfl (by kernel_rfl) rfl rfl (p_nilCheck rfl) ?_
              refine VD.pure 7 rfl (by kernel_rfl) rfl rfl (p_field (fo := 0) Try.underlying46 rfl Try.sizeOf26 rfl rfl rfl) ?_
              refine VD.turn2 4 8 (by kernel_rfl) ?_ ?_
              refine VDT.val rfl rfl rfl (r_load (v := .slice _ _ _) Try.isAgg44 rfl (hm.at_ 2 0 rfl) rfl) (Kept.of0 ((hm.shrink hu).shrink hu0)) ?_
              refine VD.turn1 8 (by kernel_rfl) ?_
              refine VDT.val rfl rfl rfl (r_load (v := .pointer _) Try.isAgg26 rfl (hm.at_ 2 0 rfl) rfl) (Kept.of0 ((hm.shrink hu).shrink hu0)) ?_
              refine VD.turn1 9 (by kernel_rfl) ?_
              refine VDT.call rfl rfl rfl (r_call1 Try.call14 rfl) (out_c hm hk hok) ?_
              rintro _ w ⟨A9, c9, M9, rfl, ho9, hm⟩
              refine ⟨Kept.of0 ((hm.shrink hu).shrink hu0), ?_⟩
              refine VD.turn1 10 (by kernel_rfl) ?_
              refine VDT.new hm rfl rfl rfl (n_buildSlice (vs := [.agg _]) Try.underlying44 inf24 rfl rfl rfl rfl rfl rfl) (fun b' w' hm' => Kept.of0 ((hm'.shrink hu).shrink hu0)) ?_
              intro b10 w hm
              replace hm := (hm.pull 7 rfl)
              refine VD.turn1 11 (by kernel_rfl) ?_
              refine VDT.append (s := 5) (bytes := 56) Try.underlying44 inf24 rfl rfl rfl rfl rfl rfl rfl rfl rfl rfl hm hO1 (Row.lit (cs := [.int .i64 a.k.out.from_, .int .i64 a.k.out.to, .int .i64 a.k.out.seq, .int .i64 a.k.out.ack, .slice A9 a.k.out.load.length c9]) (hm.at_ 1 0 rfl)) (by simp [Value.oneCell']) rfl ⟨by unfold maxLen; omega, by omega⟩ (fun A' c' w' L' ho' hm' => Kept.of0 ((hm'.shrink hu).shrink hu0)) ?_
              intro A8 c8 w O8 hO8 hm
              refine VD.pure 12 rfl (by kernel_rfl) rfl rfl (p_nilCheck rfl) ?_
              refine VD.pure 13 rfl (by kernel_rfl) rfl rfl (p_field (fo := 4) Try.underlying46 rfl Try.sizeOf44 rfl rfl rfl) ?_
              refine VD.turn1 14 (by kernel_rfl) ?_
              refine VDT.store (cs' := #[.pointer (some ⟨lm, 0, none⟩), .int .i64 a.k.inc, .slice A1 n1 c1, .slice A2 n2 c2, .slice A8 (n3 + 1) c8]) (v := .slice _ _ _) Try.sizeOf44 rfl rfl rfl rfl rfl rfl hm 5 0 rfl (Nat.ble_eq.mp rfl) rfl (fun w' hm' => Kept.of0 ((hm'.shrink hu).shrink hu0)) ?_
              intro w hm
              refine VD.nil (by kernel_rfl) rfl ?_
              rotate_left 1
              refine VDT.val rfl rfl rfl (r_load (v := .pointer _) Try.isAgg26 rfl (hm.at_ 2 0 rfl) rfl) (Kept.of0 ((hm.shrink hu).shrink hu0)) ?_
              refine VD.turn2 4 9 (by kernel_rfl) ?_ ?_
              refine VDT.val rfl rfl rfl (r_load (v := .slice _ _ _) Try.isAgg44 rfl (hm.at_ 2 0 rfl) rfl) (Kept.of0 ((hm.shrink hu).shrink hu0)) ?_
              refine VD.turn1 9 (by kernel_rfl) ?_
              refine VDT.call rfl rfl rfl (r_call1 Try.call14 rfl) (out_c hm hk hok) ?_
              rintro _ w ⟨A9, c9, M9, rfl, ho9, hm⟩
              refine ⟨Kept.of0 ((hm.shrink hu).shrink hu0), ?_⟩
              refine VD.turn1 10 (by kernel_rfl) ?_
              refine VDT.new hm rfl rfl rfl (n_buildSlice (vs := [.agg _]) Try.underlying44 inf24 rfl rfl rfl rfl rfl rfl) (fun b' w' hm' => Kept.of0 ((hm'.shrink hu).shrink hu0)) ?_
              intro b10 w hm
              replace hm := (hm.pull 7 rfl)
              refine VD.turn1 11 (by kernel_rfl) ?_
              refine VDT.append (s := 5) (bytes := 56) Try.underlying44 inf24 rfl rfl rfl rfl rfl rfl rfl rfl rfl rfl hm hO1 (Row.lit (cs := [.int .i64 a.k.out.from_, .int .i64 a.k.out.to, .int .i64 a.k.out.seq, .int .i64 a.k.out.ack, .slice A9 a.k.out.load.length c9]) (hm.at_ 1 0 rfl)) (by simp [Value.oneCell']) rfl ⟨by unfold maxLen; omega, by omega⟩ (fun A' c' w' L' ho' hm' => Kept.of0 ((hm'.shrink hu).shrink hu0)) ?_
              intro A8 c8 w O8 hO8 hm
              refine VD.pure 12 rfl (by kernel_rfl) rfl rfl (p_nilCheck rfl) ?_
              refine VD.pure 13 rfl (by kernel_rfl) rfl rfl (p_field (fo := 4) Try.underlying46 rfl Try.sizeOf44 rfl rfl rfl) ?_
              refine VD.turn1 14 (by kernel_rfl) ?_
              refine VDT.store (cs' := #[.pointer (some ⟨lm, 0, none⟩), .int .i64 a.k.inc, .slice A1 n1 c1, .slice A2 n2 c2, .slice A8 (n3 + 1) c8]) (v := .slice _ _ _) Try.sizeOf44 rfl rfl rfl rfl rfl rfl hm 5 0 rfl (Nat.ble_eq.mp rfl) rfl (fun w' hm' => Kept.of0 ((hm'.shrink hu).shrink hu0)) ?_
              intro w hm
              refine VD.nil (by kernel_rfl) rfl ?_
              rotate_left 1
              refine VDT.call rfl rfl rfl (r_call1 Try.call14 rfl) (out_c hm hk hok) ?_
              rintro _ w ⟨A9, c9, M9, rfl, ho9, hm⟩
              refine ⟨Kept.of0 ((hm.shrink hu).shrink hu0), ?_⟩
              refine VD.turn2 4 10 (by kernel_rfl) ?_ ?_
              refine VDT.val rfl rfl rfl (r_load (v := .slice _ _ _) Try.isAgg44 rfl (hm.at_ 3 0 rfl) rfl) (Kept.of0 ((hm.shrink hu).shrink hu0)) ?_
              refine VD.turn1 10 (by kernel_rfl) ?_
              refine VDT.new hm rfl rfl rfl (n_buildSlice (vs := [.agg _]) Try.underlying44 inf24 rfl rfl rfl rfl rfl rfl) (fun b' w' hm' => Kept.of0 ((hm'.shrink hu).shrink hu0)) ?_
              intro b10 w hm
              replace hm := (hm.pull 7 rfl)
              refine VD.turn1 11 (by kernel_rfl) ?_
              refine VDT.append (s := 5) (bytes := 56) Try.underlying44 inf24 rfl rfl rfl rfl rfl rfl rfl rfl rfl rfl hm hO1 (Row.lit (cs := [.int .i64 a.k.out.from_, .int .i64 a.k.out.to, .int .i64 a.k.out.seq, .int .i64 a.k.out.ack, .slice A9 a.k.out.load.length c9]) (hm.at_ 1 0 rfl)) (by simp [Value.oneCell']) rfl ⟨by unfold maxLen; omega, by omega⟩ (fun A' c' w' L' ho' hm' => Kept.of0 ((hm'.shrink hu).shrink hu0)) ?_
              intro A8 c8 w O8 hO8 hm
              refine VD.pure 12 rfl (by kernel_rfl) rfl rfl (p_nilCheck rfl) ?_
              refine VD.pure 13 rfl (by kernel_rfl) rfl rfl (p_field (fo := 4) Try.underlying46 rfl Try.sizeOf44 rfl rfl rfl) ?_
              refine VD.turn1 14 (by kernel_rfl) ?_
              refine VDT.store (cs' := #[.pointer (some ⟨lm, 0, none⟩), .int .i64 a.k.inc, .slice A1 n1 c1, .slice A2 n2 c2, .slice A8 (n3 + 1) c8]) (v := .slice _ _ _) Try.sizeOf44 rfl rfl rfl rfl rfl rfl hm 5 0 rfl (Nat.ble_eq.mp rfl) rfl (fun w' hm' => Kept.of0 ((hm'.shrink hu).shrink hu0)) ?_
              intro w hm
              refine VD.nil (by kernel_rfl) rfl ?_
              rotate_left 1
              refine VDT.new hm rfl rfl rfl (n_buildSlice (vs := [.agg _]) Try.underlying44 inf24 rfl rfl rfl rfl rfl rfl) (fun b' w' hm' => Kept.of0 ((hm'.shrink hu).shrink hu0)) ?_
              intro b10 w hm
              refine VD.turn1 4 (by kernel_rfl) ?_
              refine VDT.val rfl rfl rfl (r_load (v := .slice _ _ _) Try.isAgg44 rfl (hm.at_ 4 0 rfl) rfl) (Kept.of0 ((hm.shrink hu).shrink hu0)) ?_
              replace hm := (hm.pull 7 rfl)
              refine VD.turn1 11 (by kernel_rfl) ?_
              refine VDT.append (s := 5) (bytes := 56) Try.underlying44 inf24 rfl rfl rfl rfl rfl rfl rfl rfl rfl rfl hm hO1 (Row.lit (cs := [.int .i64 a.k.out.from_, .int .i64 a.k.out.to, .int .i64 a.k.out.seq, .int .i64 a.k.out.ack, .slice A9 a.k.out.load.length c9]) (hm.at_ 1 0 rfl)) (by simp [Value.oneCell']) rfl ⟨by unfold maxLen; omega, by omega⟩ (fun A' c' w' L' ho' hm' => Kept.of0 ((hm'.shrink hu).shrink hu0)) ?_
              intro A8 c8 w O8 hO8 hm
              refine VD.pure 12 rfl (by kernel_rfl) rfl rfl (p_nilCheck rfl) ?_
              refine VD.pure 13 rfl (by kernel_rfl) rfl rfl (p_field (fo := 4) Try.underlying46 rfl Try.sizeOf44 rfl rfl rfl) ?_
              refine VD.turn1 14 (by kernel_rfl) ?_
              refine VDT.store (cs' := #[.pointer (some ⟨lm, 0, none⟩), .int .i64 a.k.inc, .slice A1 n1 c1, .slice A2 n2 c2, .slice A8 (n3 + 1) c8]) (v := .slice _ _ _) Try.sizeOf44 rfl rfl rfl rfl rfl rfl hm 5 0 rfl (Nat.ble_eq.mp rfl) rfl (fun w' hm' => Kept.of0 ((hm'.shrink hu).shrink hu0)) ?_
              intro w hm
              refine VD.nil (by kernel_rfl) rfl ?_
              rotate_left 1
              all_goals
                obtain ⟨G1, hu1, hm, hG1⟩ := hm.pop2.swap.freeze
                exact ⟨T0, ⟨rfl, rfl, rfl, rfl, trivial⟩, by omega, a.let_, b1, Sa, Sb, ⟨G1, _, cl, W, S, T', O8, _, dl, Wo, So, To, Oo, hu.trans hu1,
                  ⟨hk.mono hu1.heap, A1, n1, c1, A2, n2, c2, A8, n3 + 1, c8, rfl, hS.mono hu1.heap, hT.mono hu1.heap, OP.push hO2 (fun x hx => (hO3 x hx).mono hu1.heap) hO8 (ho9.row1 hG1) hkm⟩,
                  ⟨hk'.mono hu1.heap, A1', n1', c1', A2', n2', c2', A3', n3', c3', rfl, hS'.mono hu1.heap, hT'.mono hu1.heap, hO'.mono hu1.heap⟩, (((((hm.pull 5 rfl).pull 5 rfl).pull 4 rfl).pull 4 rfl).pull 5 rfl)⟩, hap.let_, hca.let_, hcb.more⟩
            · repeat (first | refine VC.seq ?_ | refine VC.block ?_ | refine VC.skip ?_)
              refine VC.region ?_
              refine VR.pure rfl rfl (p_eq rfl rfl) ?_
              refine VR.pure rfl rfl (p_assignB rfl) ?_
              refine VR.nil ?_
              repeat (first | refine VC.seq ?_ | refine VC.block ?_ | refine VC.skip ?_)
              refine VC.condD rfl (fun hc4 => ?_) (fun hc4 => ?_)
              · repeat (first | refine VC.seq ?_ | refine VC.block ?_ | refine VC.skip ?_)
                refine VC.region ?_
                refine VR.pure rfl rfl (p_moveP rfl) ?_
                refine VR.pure rfl rfl (p_nilCheck rfl) ?_
                refine VR.pure rfl rfl (p_field (fo := 1) Try.underlying46 rfl Try.sizeOf3 rfl rfl rfl) ?_
                refine VR.val rfl rfl (r_load (v := .int _ _) Try.isAgg3 rfl (hm.at_ 0 0 rfl) rfl) ?_
                refine VR.pure rfl rfl (p_add64 rfl rfl (by omega)) ?_
                refine VR.pure rfl rfl (p_nilCheck rfl) ?_
                refine VR.pure rfl rfl (p_field (fo := 1) Try.underlying46 rfl Try.sizeOf3 rfl rfl rfl) ?_
                refine VR.store (cs' := #[.pointer (some ⟨lm, 0, none⟩), .int .i64 (a.k.inc + 1), .slice A1 n1 c1, .slice A2 n2 c2, .slice A3 n3 c3]) (v := .int _ _) Try.sizeOf3 rfl rfl rfl rfl rfl hm 0 0 rfl (Nat.ble_eq.mp rfl) rfl ?_
                intro w hm
                refine VR.nil ?_
                have hm1 := (((((((((((hm.pull 11 rfl).pull 11 rfl).pull 11 rfl).pull 11 rfl).pull 11 rfl).pull 11 rfl).pull 11 rfl).pull 11 rfl).pull 11 rfl).pull 11 rfl).pull 11 rfl)
                replace hm : Mem G _ ([(lm, .cells cl 33 (0, 0))] :: W :: S :: T' :: O :: [(go, .cells #[.pointer (some ⟨lo, 0, none⟩), .int .i64 b1.k.inc, .slice A1' n1' c1', .slice A2' n2' c2', .slice A3' n3' c3'] 46 (0, 0))] :: [(lo, .cells dl 33 (0, 0))] :: Wo :: So :: To :: Oo :: [(gm, .cells #[.pointer (some ⟨lm, 0, none⟩), .int .i64 (a.k.inc + 1), .slice A1 n1 c1, .slice A2 n2 c2, .slice A3 n3 c3] 46 (0, 0))] :: []) := hm1
                clear hm1
                have es : a.k.reset (a.k.inc + 1) = ⟨a.k.inc + 1, 0, 0, 0, []⟩ := by unfold Lk.reset; rw [if_pos ⟨by omega, by omega⟩]
                have hcon := reset_c (inc := a.k.inc + 1) hm.drew hk ht
                rw [es] at hcon
                repeat (first | refine VC.seq ?_ | refine VC.block ?_ | refine VC.skip ?_)
                refine VC.loud (Kept G ([(gm, .cells #[.pointer (some ⟨lm, 0, none⟩), .int .i64 (a.k.inc + 1), .slice A1 n1 c1, .slice A2 n2 c2, .slice A3 n3 c3] 46 (0, 0))] :: [])) [8] rfl (by kernel_rfl) (Kept.one hm.drew 11 rfl) ?_
                replace hm := hm.drew
                refine VL.pure rfl rfl rfl (p_moveP rfl) ?_
                refine VL.pure rfl rfl rfl (p_nilCheck rfl) ?_
                refine VL.pure rfl rfl rfl (p_field (fo := 0) Try.underlying46 rfl Try.sizeOf26 rfl rfl rfl) ?_
                refine VL.read rfl rfl rfl (fun w' hw' => r_load (v := .pointer _) Try.isAgg26 rfl (hw'.at_ 0 0 rfl) rfl) ?_
                refine VL.pure rfl rfl rfl (p_moveP rfl) ?_
                refine VL.pure rfl rfl rfl (p_nilCheck rfl) ?_
                refine VL.pure rfl rfl rfl (p_field (fo := 1) Try.underlying46 rfl Try.sizeOf3 rfl rfl rfl) ?_
                refine VL.read rfl rfl rfl (fun w' hw' => r_load (v := .int _ _) Try.isAgg3 rfl (hw'.at_ 0 0 rfl) rfl) ?_
                refine VL.call rfl rfl rfl (r_call2 Try.call29 rfl rfl) (hcon) ?_
                rintro _ w ⟨cl2, W2, hk2, hm⟩
                refine ⟨Kept.one hm 11 rfl, ?_⟩
                refine VL.nil ?_
                repeat (first | refine VC.seq ?_ | refine VC.block ?_ | refine VC.skip ?_)
                refine VC.region ?_
                refine VR.pure rfl rfl (p_moveP rfl) ?_
                refine VR.pure rfl rfl (p_moveP rfl) ?_
                refine VR.pure rfl rfl (p_nilCheck rfl) ?_
                refine VR.pure rfl rfl (p_field (fo := 2) Try.underlying46 rfl Try.sizeOf29 rfl rfl rfl) ?_
                refine VR.store (cs' := #[.pointer (some ⟨lm, 0, none⟩), .int .i64 (a.k.inc + 1), .slice none 0 0, .slice A2 n2 c2, .slice A3 n3 c3]) (v := .slice _ _ _) Try.sizeOf29 rfl rfl rfl rfl rfl hm 11 0 rfl (Nat.ble_eq.mp rfl) rfl ?_
                intro w hm
                refine VR.pure rfl rfl (p_nilCheck rfl) ?_
                refine VR.pure rfl rfl (p_field (fo := 3) Try.underlying46 rfl Try.sizeOf29 rfl rfl rfl) ?_
                refine VR.store (cs' := #[.pointer (some ⟨lm, 0, none⟩), .int .i64 (a.k.inc + 1), .slice none 0 0, .slice none 0 0, .slice A3 n3 c3]) (v := .slice _ _ _) Try.sizeOf29 rfl rfl rfl rfl rfl hm 11 0 rfl (Nat.ble_eq.mp rfl) rfl ?_
                intro w hm
                refine VR.nil ?_
                have hm1 := ((((hm.pull 11 rfl).pull 4 rfl).pull 4 rfl)).pop.pop.nil_.nil_
                exact ⟨T0, ⟨rfl, rfl, rfl, rfl, trivial⟩, by omega, ⟨⟨a.k.inc + 1, 0, 0, 0, []⟩, [], [], a.out⟩, b1, Sa, Sb, ⟨G, _, cl2, W2, [], [], O, _, dl, Wo, So, To, Oo, hu,
                  ⟨hk2, none, 0, 0, none, 0, 0, A3, n3, c3, rfl, OL.nil _, OL.nil _, hO⟩, ⟨hk', A1', n1', c1', A2', n2', c2', A3', n3', c3', rfl, hS', hT', hO'⟩, (((hm1.pull 4 rfl).pull 4 rfl).pull 4 rfl)⟩, hap.reset, hca.reset hinc1, hcb.more⟩
              · repeat (first | refine VC.seq ?_ | refine VC.block ?_ | refine VC.skip ?_)
                refine VC.region ?_
                refine VR.pure rfl rfl (p_moveP rfl) ?_
                refine VR.pure rfl rfl (p_nilCheck rfl) ?_
                refine VR.pure rfl rfl (p_field (fo := 4) Try.underlying46 rfl Try.sizeOf44 rfl rfl rfl) ?_
                refine VR.val rfl rfl (r_load (v := .slice _ _ _) Try.isAgg44 rfl (hm.at_ 6 0 rfl) rfl) ?_
                refine VR.pure rfl rfl (p_len Try.underlying44 rfl) ?_
                refine VR.pure rfl rfl (p_eq rfl rfl) ?_
                refine VR.nil ?_
                repeat (first | refine VC.seq ?_ | refine VC.block ?_ | refine VC.skip ?_)
                refine VC.condD rfl (fun hne => ?_) (fun hne => ?_)
                · refine VC.exit ?_
                  repeat (first | refine VC.seq ?_ | refine VC.block ?_ | refine VC.skip ?_)
                  refine VC.region ?_
                  refine VR.pure rfl rfl (p_moveI rfl) ?_
                  refine VR.pure rfl rfl (p_add64 rfl rfl (by omega)) ?_
                  refine VR.pure rfl rfl (p_assignI rfl) ?_
                  refine VR.nil ?_
                  exact ⟨(i + 1, T0), ⟨rfl, rfl, rfl, rfl, trivial⟩, ⟨by omega, by omega, hnext _ T0 (by omega) ⟨a, b1, Sa, Sb, ⟨G, _, cl, W, S, T', O, _, dl, Wo, So, To, Oo, hu, ⟨hk, A1, n1, c1, A2, n2, c2, A3, n3, c3, rfl, hS, hT, hO⟩, ⟨hk', A1', n1', c1', A2', n2', c2', A3', n3', c3', rfl, hS', hT', hO'⟩, hm⟩, hap, hca.more, hcb.more⟩⟩, by omega⟩
                · obtain ⟨ps, hO1, hO2, hO3⟩ := hO'
                  have hpl : ps.length = n3' := by have := hO1.1; rw [flat_len Pb.len] at this; omega
                  have hn3 : 0 < n3' := by omega
                  obtain ⟨bo, offo, cur, rfl, rfl, hcp⟩ := hO1.toO.elem Pb.len (by decide) hn3
                  obtain ⟨y, hy, hym⟩ := get_of (xs := ps) (k := kk / 8 % n3') (by rw [hpl]; exact Nat.mod_lt _ hn3)
                  have hpm : y.p ∈ b1.out := by rw [← hO2]; exact List.mem_map.2 ⟨y, hym, rfl⟩
                  have hyo := hO3 y hym
                  have htk := hap.take hpm
                  have htw := fun s t hs ht => hca.took y.p (sent := s) (told := t) hs ht
                  have hm1 := (((((((((hm.pull 10 rfl).pull 10 rfl).pull 10 rfl).pull 10 rfl).pull 9 rfl).pull 9 rfl).pull 9 rfl).pull 9 rfl).pull 9 rfl)
                  replace hm : Mem G _ ([(lm, .cells cl 33 (0, 0))] :: W :: S :: T' :: O :: [(lo, .cells dl 33 (0, 0))] :: Wo :: So :: To :: [(gm, .cells #[.pointer (some ⟨lm, 0, none⟩), .int .i64 a.k.inc, .slice A1 n1 c1, .slice A2 n2 c2, .slice A3 n3 c3] 46 (0, 0))] :: [(go, .cells #[.pointer (some ⟨lo, 0, none⟩), .int .i64 b1.k.inc, .slice A1' n1' c1', .slice A2' n2' c2', .slice (some ⟨bo, offo, none⟩) n3' c3'] 46 (0, 0))] :: [(bo, .cells cur 24 (0, 0))] :: []) := hm1
                  clear hm1
                  have hcon := take_c hm.drew hk hok hyo.1 (by have := hyo.2; omega) (d := y.c)
                  have hinc2 := (take_wait a.k y.p).2
                  rcases htk2 : a.k.take y.p with ⟨r, br, k2⟩
                  rw [htk2] at htk hcon htw hinc2
                  dsimp only at htk hcon htw hinc2
                  repeat (first | refine VC.seq ?_ | refine VC.block ?_ | refine VC.skip ?_)
                  refine VC.loud (Kept G ([(gm, .cells #[.pointer (some ⟨lm, 0, none⟩), .int .i64 a.k.inc, .slice A1 n1 c1, .slice A2 n2 c2, .slice A3 n3 c3] 46 (0, 0))] :: [(go, .cells #[.pointer (some ⟨lo, 0, none⟩), .int .i64 b1.k.inc, .slice A1' n1' c1', .slice A2' n2' c2', .slice (some ⟨bo, offo, none⟩) n3' c3'] 46 (0, 0))] :: [(bo, .cells cur 24 (0, 0))] :: [])) [18] rfl (by kernel_rfl) (Kept.of (M := [_, _, _, _, _, _, _, _, _]) hm.drew) ?_
                  replace hm := hm.drew
                  refine VL.pure rfl rfl rfl (p_moveP rfl) ?_
                  refine VL.pure rfl rfl rfl (p_nilCheck rfl) ?_
                  refine VL.pure rfl rfl rfl (p_field (fo := 0) Try.underlying46 rfl Try.sizeOf26 rfl rfl rfl) ?_
                  refine VL.read rfl rfl rfl (fun w' hw' => r_load (v := .pointer _) Try.isAgg26 rfl (hw'.at_ 0 0 rfl) rfl) ?_
                  refine VL.pure rfl rfl rfl (p_moveP rfl) ?_
                  refine VL.pure rfl rfl rfl (p_nilCheck rfl) ?_
                  refine VL.pure rfl rfl rfl (p_field (fo := 4) Try.underlying46 rfl Try.sizeOf44 rfl rfl rfl) ?_
                  refine VL.read rfl rfl rfl (fun w' hw' => r_load (v := .slice _ _ _) Try.isAgg44 rfl (hw'.at_ 1 0 rfl) rfl) ?_
                  refine VL.pure rfl rfl rfl (p_moveI rfl) ?_
                  refine VL.pure rfl rfl rfl (p_quo64 rfl rfl (by omega)) ?_
                  refine VL.pure rfl rfl rfl (p_moveP rfl) ?_
                  refine VL.pure rfl rfl rfl (p_nilCheck rfl) ?_
                  refine VL.pure rfl rfl rfl (p_field (fo := 4) Try.underlying46 rfl Try.sizeOf44 rfl rfl rfl) ?_
                  refine VL.read rfl rfl rfl (fun w' hw' => r_load (v := .slice _ _ _) Try.isAgg44 rfl (hw'.at_ 1 0 rfl) rfl) ?_
                  refine VL.pure rfl rfl rfl (p_len Try.underlying44 rfl) ?_
                  refine VL.pure rfl rfl rfl (p_rem64E (r := ((kk / 8 % n3' : Nat) : Int)) rfl rfl (by omega) (by omega) rfl) ?_
                  refine VL.pure rfl rfl rfl (p_idxN Try.underlying44 Try.sizeOf24 rfl rfl (Nat.mod_lt _ hn3)) ?_
                  refine VL.read rfl rfl rfl (fun w' hw' => r_loadAgg (vs := [.int _ _, .int _ _, .int _ _, .int _ _, .slice _ _ _]) Try.isAgg24 Try.sizeOf24 rfl (hw'.at_ 2 0 rfl) rfl (hcp (kk / 8 % n3') y hy)) ?_
                  refine VL.call rfl rfl rfl (r_call2 Try.call9 rfl rfl) (hcon) ?_
                  rintro _ w ⟨cl4, W4, A4, c4, M4, rfl, hk4, ho4, hm⟩
                  refine ⟨Kept.of (M := [_, _, _, _, _, _, _, _, _, _]) hm, ?_⟩
                  refine VL.pure rfl rfl rfl (p_moveT rfl) ?_
                  refine VL.pure rfl rfl rfl (p_extract rfl rfl) ?_
                  refine VL.pure rfl rfl rfl (p_extract rfl rfl) ?_
                  refine VL.pure rfl rfl rfl (p_extract rfl rfl) ?_
                  refine VL.pure rfl rfl rfl (p_assignL rfl) ?_
                  refine VL.pure rfl rfl rfl (p_assignB rfl) ?_
                  refine VL.pure rfl rfl rfl (p_assignB rfl) ?_
                  refine VL.nil ?_
                  repeat (first | refine VC.seq ?_ | refine VC.block ?_ | refine VC.skip ?_)
                  refine VC.region ?_
                  refine VR.pure rfl rfl (p_moveB rfl) ?_
                  refine VR.nil ?_
                  have hle4 := ho4.le
                  obtain ⟨G1, hu1, hm, hG1⟩ := hm.freeze
                  replace hu := hu.trans hu1
                  replace hk4 := hk4.mono hu1.heap
                  replace hk' := hk'.mono hu1.heap
                  replace hS := hS.mono hu1.heap
                  replace hT := hT.mono hu1.heap
                  replace hO := hO.mono hu1.heap
                  replace hS' := hS'.mono hu1.heap
                  replace hT' := hT'.mono hu1.heap
                  have hO' : OP G1.heap (some ⟨bo, offo, none⟩) n3' c3' b1.out _ := ⟨ps, hO1, hO2, fun x hx => (hO3 x hx).mono hu1.heap⟩
                  have hr4 : BRow G1.heap A4 _ _ := ho4.row1 hG1
                  clear hO3 hyo hcon
                  have hsl := hca.sent
                  have htl := hca.told
                  repeat (first | refine VC.seq ?_ | refine VC.block ?_ | refine VC.skip ?_)
                  refine VC.meet (σ := Unit) (fun _ => [(0, .slice (some ⟨b, off, none⟩) n c), (3, .slice (some ⟨bs, 0, none⟩) 2 2), (4, .int .i64 T0), (5, .int .i64 i), (6, .int .i64 ((q : Nat) : Int)), (7, .pointer (some ⟨gm, 0, none⟩)), (11, .slice A4 (r.getD []).length c4), (12, .bool r.isSome)])
                    (fun _ w => ∃ A1 n1 c1 A2 n2 c2 S T', Mem G1 w ([(lm, .cells cl4 33 (0, 0))] :: W4 :: S :: T' :: O :: [(lo, .cells dl 33 (0, 0))] :: Wo :: So :: To :: [(gm, .cells #[.pointer (some ⟨lm, 0, none⟩), .int .i64 a.k.inc, .slice A1 n1 c1, .slice A2 n2 c2, .slice A3 n3 c3] 46 (0, 0))] :: [(go, .cells #[.pointer (some ⟨lo, 0, none⟩), .int .i64 b1.k.inc, .slice A1' n1' c1', .slice A2' n2' c2', .slice (some ⟨bo, offo, none⟩) n3' c3'] 46 (0, 0))] :: [(bo, .cells cur 24 (0, 0))] :: []) ∧
                      OL G1.heap A1 n1 c1 (if br then [] else a.sent) S ∧ OL G1.heap A2 n2 c2 (if br then [] else a.told) T') ?_ ?_
                  · cases br with
                    | true =>
                      refine VC.condT rfl rfl ?_
                      repeat (first | refine VC.seq ?_ | refine VC.block ?_ | refine VC.skip ?_)
                      refine VC.region ?_
                      refine VR.pure rfl rfl (p_moveP rfl) ?_
                      refine VR.pure rfl rfl (p_moveP rfl) ?_
                      refine VR.pure rfl rfl (p_nilCheck rfl) ?_
                      refine VR.pure rfl rfl (p_field (fo := 2) Try.underlying46 rfl Try.sizeOf29 rfl rfl rfl) ?_
                      refine VR.store (cs' := #[.pointer (some ⟨lm, 0, none⟩), .int .i64 a.k.inc, .slice none 0 0, .slice A2 n2 c2, .slice A3 n3 c3]) (v := .slice _ _ _) Try.sizeOf29 rfl rfl rfl rfl rfl hm 9 0 rfl (Nat.ble_eq.mp rfl) rfl ?_
                      intro w hm
                      refine VR.pure rfl rfl (p_nilCheck rfl) ?_
                      refine VR.pure rfl rfl (p_field (fo := 3) Try.underlying46 rfl Try.sizeOf29 rfl rfl rfl) ?_
                      refine VR.store (cs' := #[.pointer (some ⟨lm, 0, none⟩), .int .i64 a.k.inc, .slice none 0 0, .slice none 0 0, .slice A3 n3 c3]) (v := .slice _ _ _) Try.sizeOf29 rfl rfl rfl rfl rfl hm 9 0 rfl (Nat.ble_eq.mp rfl) rfl ?_
                      intro w hm
                      refine VR.nil ?_
                      have hm1 := (((hm.pull 3 rfl).pull 3 rfl)).pop.pop.nil_.nil_
                      exact ⟨(), ⟨rfl, rfl, rfl, rfl, rfl, rfl, rfl, rfl, trivial⟩, none, 0, 0, none, 0, 0, [], [], ((hm1.pull 3 rfl).pull 3 rfl), OL.nil _, OL.nil _⟩
                    | false =>
                      refine VC.condF rfl rfl ?_
                      repeat (first | refine VC.seq ?_ | refine VC.block ?_ | refine VC.skip ?_)
                      exact ⟨(), ⟨rfl, rfl, rfl, rfl, rfl, rfl, rfl, rfl, trivial⟩, A1, n1, c1, A2, n2, c2, S, T', hm, hS, hT⟩
                  · clear hm hS hT
                    rintro _ A' w ⟨A1, n1, c1, A2, n2, c2, S, T', hm, hS, hT⟩
                    have hsl2 : (if br then [] else a.sent).length ≤ i := by cases br <;> simp <;> omega
                    have htl2 : (if br then [] else a.told).length ≤ i := by cases br <;> simp <;> omega
                    generalize (if br then [] else a.sent) = sent2 at hsl2 hS htk
                    generalize (if br then [] else a.told) = told2 at htl2 hT htk
                    have hO2' := hO'
                    repeat (first | refine VC.seq ?_ | refine VC.block ?_ | refine VC.skip ?_)
                    refine VC.region ?_
                    refine VR.pure rfl rfl (p_moveB rfl) ?_
                    refine VR.nil ?_
                    cases r with
                    | none =>
                      repeat (first | refine VC.seq ?_ | refine VC.block ?_ | refine VC.skip ?_)
                      refine VC.condF rfl rfl ?_
                      repeat (first | refine VC.seq ?_ | refine VC.block ?_ | refine VC.skip ?_)
                      obtain ⟨Sa', hap'⟩ := htk.1 rfl
                      refine ⟨T0, ⟨rfl, rfl, rfl, rfl, trivial⟩, by omega, ⟨k2, sent2, told2, a.out⟩, b1, Sa', Sb, ⟨G1, _, cl4, W4, S, T', O, _, dl, Wo, So, To, _, hu, ⟨hk4, A1, n1, c1, A2, n2, c2, A3, n3, c3, ?_, hS, hT, hO⟩, ⟨hk', A1', n1', c1', A2', n2', c2', _, n3', c3', rfl, hS', hT', hO'⟩, (((((((hm.pull 10 rfl).pull 5 rfl).pull 5 rfl).pull 5 rfl).pull 5 rfl).pull 5 rfl).pull 10 rfl)⟩, hap', htw _ _ (by omega) (by omega), hcb.more⟩
                      show _ = #[_, Value.int .i64 k2.inc, _, _, _]
                      rw [hinc2]
                    | some x1 =>
                      obtain ⟨Sa', iw, tg, hx1, htg, hall, hap'⟩ := htk.2 x1 rfl
                      subst hx1
                      replace hr4 : BRow G1.heap A4 4 (enc wb iw tg) := hr4
                      repeat (first | refine VC.seq ?_ | refine VC.block ?_ | refine VC.skip ?_)
                      refine VC.condT rfl rfl ?_
                      have hT0 := hT
                      have hTl := hT.len
                      have hall1 := hm.all
                      have hgs := hm.plus_i 9 rfl _ (.head _)
                      obtain ⟨us, hrT, hus, huo⟩ := hT.row hm.le (hm.plus_i 3 rfl)
                      have hul : us.length = n2 := by rw [← hTl, ← hus, List.length_map]
                      have hrx := hr4.mono hm.le
                      obtain ⟨bx, offx, blkx, Tx, frx, hAx, hbx, hcx4⟩ := Row.get hrx (by decide)
                      have r0 := u8_range (tg : Int)
                      have r1 := u8_range ((tg : Int) / 256)
                      have e4 := enc_num (t := tg) (by omega)
                      have hx0 := hcx4 0 (by decide)
                      have hx1 := hcx4 1 (by decide)
                      have hx2 := hcx4 2 (by decide)
                      have hx3 := hcx4 3 (by decide)
                      repeat (first | refine VC.seq ?_ | refine VC.block ?_ | refine VC.skip ?_)
                      refine VC.meet (σ := Unit) (fun _ => [(0, .slice (some ⟨b, off, none⟩) n c), (3, .slice (some ⟨bs, 0, none⟩) 2 2), (4, .int .i64 T0), (5, .int .i64 i), (7, .pointer (some ⟨gm, 0, none⟩)), (11, .slice A4 4 c4), (169, .bool false)])
                        (fun _ w => Mem (G1.plus ([(lm, .cells cl4 33 (0, 0))] :: W4 :: S :: T' :: O :: [(lo, .cells dl 33 (0, 0))] :: Wo :: So :: To :: [(gm, .cells #[.pointer (some ⟨lm, 0, none⟩), .int .i64 a.k.inc, .slice A1 n1 c1, .slice A2 n2 c2, .slice A3 n3 c3] 46 (0, 0))] :: [(go, .cells #[.pointer (some ⟨lo, 0, none⟩), .int .i64 b1.k.inc, .slice A1' n1' c1', .slice A2' n2' c2', .slice (some ⟨bo, offo, none⟩) n3' c3'] 46 (0, 0))] :: [(bo, .cells cur 24 (0, 0))] :: [])) w []) ?_ ?_
                      · rw [hAx]
                        by_cases h2 : 0 < n2
                        · obtain ⟨u0, hu0x, hu0m⟩ := get_of (xs := us) (k := 0) (by omega)
                          obtain ⟨ul, hulx, hulm⟩ := get_of (xs := us) (k := n2 - 1) (by omega)
                          obtain ⟨t0, et0, ht01, ht02⟩ := hall u0.bs (by rw [← hus]; exact List.mem_map.2 ⟨u0, hu0m, rfl⟩)
                          obtain ⟨tl, etl, htl1, htl2⟩ := hall ul.bs (by rw [← hus]; exact List.mem_map.2 ⟨ul, hulm, rfl⟩)
                          have hb0 := (huo u0 hu0m).1
                          have hbl := (huo ul hulm).1
                          rw [et0] at hb0
                          rw [etl] at hbl
                          have hl0 : u0.n = 4 := hb0.len.symm
                          have hll : ul.n = 4 := hbl.len.symm
                          obtain ⟨bt, offt, blkt, Ttt, frt, hAt, hbt, hct⟩ := Row.get hrT (by omega)
                          obtain ⟨b0', off0', blk0', T0', fr0', hA0, hbb0, hcc0⟩ := Row.get hb0 (by omega)
                          obtain ⟨bl', offl', blkl', Tl', frl', hAl, hbbl, hccl⟩ := Row.get hbl (by omega)
                          have ct0 := (hct 0 h2).trans (bcell_at hu0x)
                          have ctl := (hct (n2 - 1) (by omega)).trans (bcell_at hulx)
                          have c01 := hcc0 1 (by omega)
                          have cl2 := hccl 2 (by omega)
                          have cl3 := hccl 3 (by omega)
                          have s0 := u8_range (tl : Int)
                          have s1 := u8_range ((tl : Int) / 256)
                          have e5 := enc_num (t := tl) (by omega)
                          rw [hA0] at ct0
                          rw [hAl] at ctl
                          have hn2le : n2 ≤ 300 := by omega
                          have hgs2 := slice_eq (H := Env.heap _) (b := gm) hgs hAt
                          repeat (first | refine VC.seq ?_ | refine VC.block ?_ | refine VC.skip ?_)
                          refine VC.loud (Kept (G1.plus ([(lm, .cells cl4 33 (0, 0))] :: W4 :: S :: T' :: O :: [(lo, .cells dl 33 (0, 0))] :: Wo :: So :: To :: [(gm, .cells #[.pointer (some ⟨lm, 0, none⟩), .int .i64 a.k.inc, .slice A1 n1 c1, .slice A2 n2 c2, .slice A3 n3 c3] 46 (0, 0))] :: [(go, .cells #[.pointer (some ⟨lo, 0, none⟩), .int .i64 b1.k.inc, .slice A1' n1' c1', .slice A2' n2' c2', .slice (some ⟨bo, offo, none⟩) n3' c3'] 46 (0, 0))] :: [(bo, .cells cur 24 (0, 0))] :: [])) []) [] rfl (by kernel_rfl) (Kept.of0 hall1.drew) ?_
                          replace hall1 := hall1.drew
                          refine VL.pure rfl rfl rfl (p_moveL rfl) ?_
                          refine VL.pure rfl rfl rfl (p_len Try.underlying22 rfl) ?_
                          refine VL.pure rfl rfl rfl (p_ne rfl rfl) ?_
                          refine VL.pure rfl rfl rfl (p_moveB rfl) ?_
                          refine VL.knownF 94 rfl (decide_eq_false (by simp [enc])) ?_
                          refine VL.pureG rfl rfl rfl (p_moveL rfl) ?_
                          refine VL.pureG rfl rfl rfl (p_idx1 (j := 0) Try.underlying22 Try.sizeOf5 rfl rfl (by simp [enc])) ?_
                          refine VL.readG rfl rfl rfl (fun w' hw' => r_load (v := .int _ _) Try.isAgg5 rfl (hw'.fix _ _ hbx) hx0) ?_
                          refine VL.pureG rfl rfl rfl (p_moveI rfl) ?_
                          refine VL.pureG rfl rfl rfl (p_sub64E (r := ((1 - q : Nat) : Int)) rfl rfl (by omega) (by omega)) ?_
                          refine VL.pureG rfl rfl rfl (p_conv Try.underlying3 Try.underlying5 rfl) ?_
                          refine VL.pureG rfl rfl rfl (p_ne rfl rfl) ?_
                          refine VL.pure rfl rfl rfl (p_pickF rfl rfl) ?_
                          refine VL.pure rfl rfl rfl (p_moveB rfl) ?_
                          refine VL.knownF 103 rfl (decide_eq_false (not_not_intro (by rw [hwb]))) ?_
                          refine VL.pureG rfl rfl rfl (p_moveP rfl) ?_
                          refine VL.pureG rfl rfl rfl (p_nilCheck rfl) ?_
                          refine VL.pureG rfl rfl rfl (p_field (fo := 3) Try.underlying46 rfl Try.sizeOf29 rfl rfl rfl) ?_
                          refine VL.readG rfl rfl rfl (fun w' hw' => r_load (v := .slice _ _ _) Try.isAgg29 rfl (hw'.fix _ _ hgs2) rfl) ?_
                          refine VL.pureG rfl rfl rfl (p_len Try.underlying29 rfl) ?_
                          refine VL.pureG rfl rfl rfl (p_gt rfl rfl) ?_
                          refine VL.pureG rfl rfl rfl (p_moveB rfl) ?_
                          refine VL.knownT 110 rfl (decide_eq_true (by omega)) ?_
                          refine VL.pureG rfl rfl rfl (p_moveL rfl) ?_
                          refine VL.pureG rfl rfl rfl (p_idx1 (j := 1) Try.underlying22 Try.sizeOf5 rfl rfl (by simp [enc])) ?_
                          refine VL.readG rfl rfl rfl (fun w' hw' => r_load (v := .int _ _) Try.isAgg5 rfl (hw'.fix _ _ hbx) hx1) ?_
                          refine VL.pureG rfl rfl rfl (p_moveP rfl) ?_
                          refine VL.pureG rfl rfl rfl (p_nilCheck rfl) ?_
                          refine VL.pureG rfl rfl rfl (p_field (fo := 3) Try.underlying46 rfl Try.sizeOf29 rfl rfl rfl) ?_
                          refine VL.readG rfl rfl rfl (fun w' hw' => r_load (v := .slice _ _ _) Try.isAgg29 rfl (hw'.fix _ _ hgs2) rfl) ?_
                          refine VL.pureG rfl rfl rfl (p_idx1 (j := 0) Try.underlying29 Try.sizeOf22 rfl rfl h2) ?_
                          refine VL.readG rfl rfl rfl (fun w' hw' => r_load (v := .slice _ _ _) Try.isAgg22 rfl (hw'.fix _ _ hbt) ct0) ?_
                          refine VL.pureG rfl rfl rfl (p_idx1 (j := 1) Try.underlying22 Try.sizeOf5 rfl rfl (by omega)) ?_
                          refine VL.readG rfl rfl rfl (fun w' hw' => r_load (v := .int _ _) Try.isAgg5 rfl (hw'.fix _ _ hbb0) c01) ?_
                          refine VL.pureG rfl rfl rfl (p_ne rfl rfl) ?_
                          refine VL.pureG rfl rfl rfl (p_moveB rfl) ?_
                          refine VL.knownF 123 rfl (decide_eq_false (not_not_intro rfl)) ?_
                          refine VL.pureG rfl rfl rfl (p_moveL rfl) ?_
                          refine VL.pureG rfl rfl rfl (p_idx1 (j := 2) Try.underlying22 Try.sizeOf5 rfl rfl (by simp [enc])) ?_
                          refine VL.readG rfl rfl rfl (fun w' hw' => r_load (v := .int _ _) Try.isAgg5 rfl (hw'.fix _ _ hbx) hx2) ?_
                          refine VL.pureG rfl rfl rfl (p_conv64 Try.underlying5 Try.underlying3 rfl (by omega)) ?_
                          refine VL.pureG rfl rfl rfl (p_moveL rfl) ?_
                          refine VL.pureG rfl rfl rfl (p_idx1 (j := 3) Try.underlying22 Try.sizeOf5 rfl rfl (by simp [enc])) ?_
                          refine VL.readG rfl rfl rfl (fun w' hw' => r_load (v := .int _ _) Try.isAgg5 rfl (hw'.fix _ _ hbx) hx3) ?_
                          refine VL.pureG rfl rfl rfl (p_conv64 Try.underlying5 Try.underlying3 rfl (by omega)) ?_
                          refine VL.pureG rfl rfl rfl (p_mul64 rfl rfl (by omega)) ?_
                          refine VL.pureG rfl rfl rfl (p_add64 rfl rfl (by omega)) ?_
                          refine VL.pureG rfl rfl rfl (p_moveP rfl) ?_
                          refine VL.pureG rfl rfl rfl (p_nilCheck rfl) ?_
                          refine VL.pureG rfl rfl rfl (p_field (fo := 3) Try.underlying46 rfl Try.sizeOf29 rfl rfl rfl) ?_
                          refine VL.readG rfl rfl rfl (fun w' hw' => r_load (v := .slice _ _ _) Try.isAgg29 rfl (hw'.fix _ _ hgs2) rfl) ?_
                          refine VL.pureG rfl rfl rfl (p_moveP rfl) ?_
                          refine VL.pureG rfl rfl rfl (p_nilCheck rfl) ?_
                          refine VL.pureG rfl rfl rfl (p_field (fo := 3) Try.underlying46 rfl Try.sizeOf29 rfl rfl rfl) ?_
                          refine VL.readG rfl rfl rfl (fun w' hw' => r_load (v := .slice _ _ _) Try.isAgg29 rfl (hw'.fix _ _ hgs2) rfl) ?_
                          refine VL.pureG rfl rfl rfl (p_len Try.underlying29 rfl) ?_
                          refine VL.pureG rfl rfl rfl (p_sub64E (r := ((n2 - 1 : Nat) : Int)) rfl rfl (by omega) (by omega)) ?_
                          refine VL.pureG rfl rfl rfl (p_idx1 Try.underlying29 Try.sizeOf22 rfl rfl (by omega : n2 - 1 < n2)) ?_
                          refine VL.readG rfl rfl rfl (fun w' hw' => r_load (v := .slice _ _ _) Try.isAgg22 rfl (hw'.fix _ _ hbt) ctl) ?_
                          refine VL.pureG rfl rfl rfl (p_idx1 (j := 2) Try.underlying22 Try.sizeOf5 rfl rfl (by omega)) ?_
                          refine VL.readG rfl rfl rfl (fun w' hw' => r_load (v := .int _ _) Try.isAgg5 rfl (hw'.fix _ _ hbbl) cl2) ?_
                          refine VL.pureG rfl rfl rfl (p_conv64 Try.underlying5 Try.underlying3 rfl (by omega)) ?_
                          refine VL.pureG rfl rfl rfl (p_moveP rfl) ?_
                          refine VL.pureG rfl rfl rfl (p_nilCheck rfl) ?_
                          refine VL.pureG rfl rfl rfl (p_field (fo := 3) Try.underlying46 rfl Try.sizeOf29 rfl rfl rfl) ?_
                          refine VL.readG rfl rfl rfl (fun w' hw' => r_load (v := .slice _ _ _) Try.isAgg29 rfl (hw'.fix _ _ hgs2) rfl) ?_
                          refine VL.pureG rfl rfl rfl (p_moveP rfl) ?_
                          refine VL.pureG rfl rfl rfl (p_nilCheck rfl) ?_
                          refine VL.pureG rfl rfl rfl (p_field (fo := 3) Try.underlying46 rfl Try.sizeOf29 rfl rfl rfl) ?_
                          refine VL.readG rfl rfl rfl (fun w' hw' => r_load (v := .slice _ _ _) Try.isAgg29 rfl (hw'.fix _ _ hgs2) rfl) ?_
                          refine VL.pureG rfl rfl rfl (p_len Try.underlying29 rfl) ?_
                          refine VL.pureG rfl rfl rfl (p_sub64E (r := ((n2 - 1 : Nat) : Int)) rfl rfl (by omega) (by omega)) ?_
                          refine VL.pureG rfl rfl rfl (p_idx1 Try.underlying29 Try.sizeOf22 rfl rfl (by omega : n2 - 1 < n2)) ?_
                          refine VL.readG rfl rfl rfl (fun w' hw' => r_load (v := .slice _ _ _) Try.isAgg22 rfl (hw'.fix _ _ hbt) ctl) ?_
                          refine VL.pureG rfl rfl rfl (p_idx1 (j := 3) Try.underlying22 Try.sizeOf5 rfl rfl (by omega)) ?_
                          refine VL.readG rfl rfl rfl (fun w' hw' => r_load (v := .int _ _) Try.isAgg5 rfl (hw'.fix _ _ hbbl) cl3) ?_
                          refine VL.pureG rfl rfl rfl (p_conv64 Try.underlying5 Try.underlying3 rfl (by omega)) ?_
                          refine VL.pureG rfl rfl rfl (p_mul64 rfl rfl (by omega)) ?_
                          refine VL.pureG rfl rfl rfl (p_add64 rfl rfl (by omega)) ?_
                          refine VL.pureG rfl rfl rfl (p_le rfl rfl) ?_
                          refine VL.pureG rfl rfl rfl (p_pickF rfl rfl) ?_
                          refine VL.pureG rfl rfl rfl (p_pickT rfl rfl) ?_
                          refine VL.pure rfl rfl rfl (p_pickF rfl rfl) ?_
                          refine VL.nil ?_
                          exact ⟨(), ⟨rfl, rfl, rfl, rfl, rfl, rfl, congrArg Value.bool (decide_eq_false (by omega)), trivial⟩, hall1⟩
                        · repeat (first | refine VC.seq ?_ | refine VC.block ?_ | refine VC.skip ?_)
                          refine VC.loud (Kept (G1.plus ([(lm, .cells cl4 33 (0, 0))] :: W4 :: S :: T' :: O :: [(lo, .cells dl 33 (0, 0))] :: Wo :: So :: To :: [(gm, .cells #[.pointer (some ⟨lm, 0, none⟩), .int .i64 a.k.inc, .slice A1 n1 c1, .slice A2 n2 c2, .slice A3 n3 c3] 46 (0, 0))] :: [(go, .cells #[.pointer (some ⟨lo, 0, none⟩), .int .i64 b1.k.inc, .slice A1' n1' c1', .slice A2' n2' c2', .slice (some ⟨bo, offo, none⟩) n3' c3'] 46 (0, 0))] :: [(bo, .cells cur 24 (0, 0))] :: [])) []) [] rfl (by kernel_rfl) (Kept.of0 hall1.drew) ?_
                          replace hall1 := hall1.drew
                          refine VL.pure rfl rfl rfl (p_moveL rfl) ?_
                          refine VL.pure rfl rfl rfl (p_len Try.underlying22 rfl) ?_
                          refine VL.pure rfl rfl rfl (p_ne rfl rfl) ?_
                          refine VL.pure rfl rfl rfl (p_moveB rfl) ?_
                          refine VL.knownF 94 rfl (decide_eq_false (by simp [enc])) ?_
                          refine VL.pureG rfl rfl rfl (p_moveL rfl) ?_
                          refine VL.pureG rfl rfl rfl (p_idx1 (j := 0) Try.underlying22 Try.sizeOf5 rfl rfl (by simp [enc])) ?_
                          refine VL.readG rfl rfl rfl (fun w' hw' => r_load (v := .int _ _) Try.isAgg5 rfl (hw'.fix _ _ hbx) hx0) ?_
                          refine VL.pureG rfl rfl rfl (p_moveI rfl) ?_
                          refine VL.pureG rfl rfl rfl (p_sub64E (r := ((1 - q : Nat) : Int)) rfl rfl (by omega) (by omega)) ?_
                          refine VL.pureG rfl rfl rfl (p_conv Try.underlying3 Try.underlying5 rfl) ?_
                          refine VL.pureG rfl rfl rfl (p_ne rfl rfl) ?_
                          refine VL.pure rfl rfl rfl (p_pickF rfl rfl) ?_
                          refine VL.pure rfl rfl rfl (p_moveB rfl) ?_
                          refine VL.knownF 103 rfl (decide_eq_false (not_not_intro (by rw [hwb]))) ?_
                          refine VL.pureG rfl rfl rfl (p_moveP rfl) ?_
                          refine VL.pureG rfl rfl rfl (p_nilCheck rfl) ?_
                          refine VL.pureG rfl rfl rfl (p_field (fo := 3) Try.underlying46 rfl Try.sizeOf29 rfl rfl rfl) ?_
                          refine VL.readG rfl rfl rfl (fun w' hw' => r_load (v := .slice _ _ _) Try.isAgg29 rfl (hw'.fix _ _ hgs) rfl) ?_
                          refine VL.pureG rfl rfl rfl (p_len Try.underlying29 rfl) ?_
                          refine VL.pureG rfl rfl rfl (p_gt rfl rfl) ?_
                          refine VL.pureG rfl rfl rfl (p_moveB rfl) ?_
                          refine VL.knownF 110 rfl (decide_eq_false (by omega)) ?_
                          refine VL.pass rfl rfl ?_
                          refine VL.pass rfl rfl ?_
                          refine VL.pass rfl rfl ?_
                          refine VL.pass rfl rfl ?_
                          refine VL.pass rfl rfl ?_
                          refine VL.pass rfl rfl ?_
                          refine VL.pass rfl rfl ?_
                          refine VL.pass rfl rfl ?_
                          refine VL.pass rfl rfl ?_
                          refine VL.pass rfl rfl ?_
                          refine VL.pass rfl rfl ?_
                          refine VL.pass rfl rfl ?_
                          refine VL.pass rfl rfl ?_
                          refine VL.pass rfl rfl ?_
                          refine VL.pass rfl rfl ?_
                          refine VL.pass rfl rfl ?_
                          refine VL.pass rfl rfl ?_
                          refine VL.pass rfl rfl ?_
                          refine VL.pass rfl rfl ?_
                          refine VL.pass rfl rfl ?_
                          refine VL.pass rfl rfl ?_
                          refine VL.pass rfl rfl ?_
                          refine VL.pass rfl rfl ?_
                          refine VL.pass rfl rfl ?_
                          refine VL.pass rfl rfl ?_
                          refine VL.pass rfl rfl ?_
                          refine VL.pass rfl rfl ?_
                          refine VL.pass rfl rfl ?_
                          refine VL.pass rfl rfl ?_
                          refine VL.pass rfl rfl ?_
                          refine VL.pass rfl rfl ?_
                          refine VL.pass rfl rfl ?_
                          refine VL.pass rfl rfl ?_
                          refine VL.pass rfl rfl ?_
                          refine VL.pass rfl rfl ?_
                          refine VL.pass rfl rfl ?_
                          refine VL.pass rfl rfl ?_
                          refine VL.pass rfl rfl ?_
                          refine VL.pass rfl rfl ?_
                          refine VL.pass rfl rfl ?_
                          refine VL.pass rfl rfl ?_
                          refine VL.pass rfl rfl ?_
                          refine VL.pass rfl rfl ?_
                          refine VL.pass rfl rfl ?_
                          refine VL.pass rfl rfl ?_
                          refine VL.pass rfl rfl ?_
                          refine VL.pass rfl rfl ?_
                          refine VL.pass rfl rfl ?_
                          refine VL.pass rfl rfl ?_
                          refine VL.pass rfl rfl ?_
                          refine VL.pass rfl rfl ?_
                          refine VL.pass rfl rfl ?_
                          refine VL.pass rfl rfl ?_
                          refine VL.pass rfl rfl ?_
                          refine VL.pass rfl rfl ?_
                          refine VL.pass rfl rfl ?_
                          refine VL.pass rfl rfl ?_
                          refine VL.pureG rfl rfl rfl (p_pickF rfl rfl) ?_
                          refine VL.pure rfl rfl rfl (p_pickF rfl rfl) ?_
                          refine VL.nil ?_
                          exact ⟨(), ⟨rfl, rfl, rfl, rfl, rfl, rfl, rfl, trivial⟩, hall1⟩
                      · clear hall1
                        rintro _ A' w hall1
                        replace hm := hm.back0 hall1
                        repeat (first | refine VC.seq ?_ | refine VC.block ?_ | refine VC.skip ?_)
                        refine VC.condF rfl rfl ?_
                        have hn2 : n2 ≤ 300 := by omega
                        obtain ⟨ws, hT1, hT2, hT3⟩ := hT
                        repeat (first | refine VC.seq ?_ | refine VC.block ?_ | refine VC.skip ?_)
                        refine VC.region ?_
                        refine VR.pure rfl rfl (p_moveP rfl) ?_
                        refine VR.pure rfl rfl (p_moveP rfl) ?_
                        refine VR.pure rfl rfl (p_nilCheck rfl) ?_
                        refine VR.pure rfl rfl (p_field (fo := 3) Try.underlying46 rfl Try.sizeOf29 rfl rfl rfl) ?_
                        refine VR.val rfl rfl (r_load (v := .slice _ _ _) Try.isAgg29 rfl (hm.at_ 9 0 rfl) rfl) ?_
                        refine VR.pure rfl rfl (p_moveL rfl) ?_
                        refine VR.new hm rfl rfl (n_buildSlice1 (vs := [.slice _ _ _]) Try.underlying29 inf22 rfl rfl rfl rfl rfl rfl rfl) ?_
                        intro b18 w hm
                        replace hm := (hm.pull 4 rfl)
                        refine VR.append (s := 1) (bytes := 24) Try.underlying29 inf22 rfl rfl rfl rfl rfl rfl rfl rfl rfl hm hT1 (Row.lit (cs := [.slice A4 4 c4]) (hm.at_ 1 0 rfl)) (by simp [Value.oneCell']) rfl ⟨by unfold maxLen; omega, by omega⟩ ?_
                        intro A9 c9 w T9 hT9 hm
                        refine VR.pure rfl rfl (p_nilCheck rfl) ?_
                        refine VR.pure rfl rfl (p_field (fo := 3) Try.underlying46 rfl Try.sizeOf29 rfl rfl rfl) ?_
                        refine VR.store (cs' := #[.pointer (some ⟨lm, 0, none⟩), .int .i64 a.k.inc, .slice A1 n1 c1, .slice A9 (n2 + 1) c9, .slice A3 n3 c3]) (v := .slice _ _ _) Try.sizeOf29 rfl rfl rfl rfl rfl hm 10 0 rfl (Nat.ble_eq.mp rfl) rfl ?_
                        intro w hm
                        refine VR.nil ?_
                        refine ⟨T0, ⟨rfl, rfl, rfl, rfl, trivial⟩, by omega, ⟨k2, sent2, told2 ++ [enc wb iw tg], a.out⟩, b1, Sa', Sb, ⟨G1, _, cl4, W4, S, T9, O, _, dl, Wo, So, To, _, hu, ⟨hk4, A1, n1, c1, A9, n2 + 1, c9, A3, n3, c3, ?_, hS, OL.push hT2 hT3 hT9 hr4 (by unfold maxLen; omega), hO⟩, ⟨hk', A1', n1', c1', A2', n2', c2', _, n3', c3', rfl, hS', hT', hO'⟩, (((((((hm.pop2.pull 10 rfl).pull 5 rfl).pull 2 rfl).pull 5 rfl).pull 5 rfl).pull 5 rfl).pull 10 rfl)⟩, hap', htw _ _ (by omega) (by rw [List.length_append, List.length_singleton]; omega), hcb.more⟩
                        show _ = #[_, Value.int .i64 k2.inc, _, _, _]
                        rw [hinc2]
    · rintro T1 A' w ⟨hT1, hd⟩
      repeat (first | refine VC.seq ?_ | refine VC.block ?_ | refine VC.skip ?_)
      refine VC.region ?_
      refine VR.pure rfl rfl (p_moveI rfl) ?_
      refine VR.pure rfl rfl (p_add64 rfl rfl (by omega)) ?_
      refine VR.pure rfl rfl (p_assignI rfl) ?_
      refine VR.nil ?_
      exact ⟨(i + 1, T1), ⟨rfl, rfl, rfl, rfl, trivial⟩, ⟨by omega, hT1, hnext w T1 hT1 hd⟩, by omega⟩
  · repeat (first | refine VC.seq ?_ | refine VC.block ?_ | refine VC.skip ?_)
    refine VC.exit ?_
    obtain ⟨G, cs, cl, W, S, T', O, ds, dl, Wo, So, To, Oo, hu, _, _, hm⟩ := hduo
    repeat (first | refine VC.seq ?_ | refine VC.block ?_ | refine VC.skip ?_)
    refine VC.region ?_
    refine VR.pure rfl rfl (p_assignB rfl) ?_
    refine VR.nil ?_
    repeat (first | refine VC.seq ?_ | refine VC.block ?_ | refine VC.skip ?_)
    refine VC.ret ⟨_, ResOf.r1 (v := .bool _) rfl rfl, ?_⟩
    exact ⟨rfl, (hm.none_.shrink hu).shrink hu0⟩
end Go.Bd
namespace Go.Proofs.Ytfaihpikeagpcaa
open Go.Bd Go.ChangeShapes Go.WideShapes

set_option maxRecDepth 100000 in
theorem apart_lifted (os : Os) (started : os.Started) (H : Type) (enc : TypeId × Value → H) :
    ReturnsInHanded {} Try.checked os 7 .any (Rows.linkApartSpec.pre6 enc Try.prog Try.f7 Rows.linkApartRow.domain false) (Rows.linkApartSpec.post enc Try.prog Try.f7 false true false false) := by
  refine law_frame (C := Try.checked) (tb := 4) (by kernel_rfl) (by kernel_rfl) started (by kernel_rfl) Try.func7 rfl rfl Try.underlying4 (by kernel_rfl) ?_
    (ChangeSpec.witness6 (enc := enc) (C := Try.checked) false ⟨#[], #[.slice none 0 0], []⟩ 8 (by kernel_rfl) (by kernel_rfl) (by kernel_rfl) (by kernel_rfl)) ?_
  · intro ds hl
    match ds, hl with
    | [d1], _ => rfl
  · intro W base args ds p hval hA hwt
    replace hA : DataW.TrodAll enc Try.prog W 0 (fun _ => true) true Try.f7.params.toList args.toList ds p := hA
    rw [Try.params7] at hA hval
    replace hwt : (DataW.weightsEach Try.prog [42] ds).all (· ≤ reachBytes) = true := hwt
    obtain ⟨v0, vs0, d0, ds0, p0, q0, hargs, rfl, rfl, h0, r0⟩ := trodAll_cons hA
    obtain ⟨rfl, rfl, rfl⟩ := trodAll_nil r0
    obtain rfl : args = #[v0] := by cases args; simp_all
    obtain ⟨A0, n0, c0, xs0, rfl, hn0, hc0, hr0, w0, hd0⟩ := arg_ints Try.underlying42 Try.underlying3 (by kernel_rfl) (hval 0 42 v0 rfl rfl) h0
    exact link_apart_c (Mem.of W) hr0

theorem apart : Rows.LinkApartSaid :=
  OpenClaim.holds_of_wide 7 Try.f7 rfl rfl rfl rfl rfl rfl rfl ⟨rfl, rfl, rfl, rfl, rfl⟩ rfl rfl rfl rfl rfl (by kernel_rfl) Try.func7 (by kernel_rfl)
    (of_decide_eq_true (by kernel_rfl)) (by unfold Func.isWrapper; rw [if_neg (of_decide_eq_false (by kernel_rfl))]; exact ⟨rfl, rfl⟩)
    (fun os started H enc _ => apart_lifted os started H enc)
end Go.Proofs.Ytfaihpikeagpcaa
