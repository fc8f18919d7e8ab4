/- LinkKeeps: what is let out and told is new memory. Conditions: none. -/
import Derived.Test.Ytfaihpikeagpcaa10g
import Derived.Test.YtfaihpikeagpcaaFrame
import Derived.Test.Ytfaihpikeagpcaa10o
namespace Go.Bd
open Go.Proofs
set_option linter.unusedVariables false
set_option linter.unusedSimpArgs false
set_option maxRecDepth 20000

theorem copyB_c {F : Env} {w : World} {Ls : List Blks} {A : Option Addr} {n c : Nat} {l : List Int} (hm : Mem F w Ls) (hn : n ≤ 140737488355328) (hr : BRow F.heap A n l) :
    Calls Try.prog 18 #[.slice A n c] w (Ret fun v w' => ∃ A' c' L, v = .slice A' n c' ∧ OwnS 5 1 A' n c' (bytes l) L ∧ Mem F w' (L :: Ls)) := by
  have hr1 : Row F.heap A (n * 1) (bytes l) := by rw [Nat.mul_one]; exact hr
  refine Calls.of_vc Try.func18 rfl Try.ntmps18 rfl ?_
  repeat (first | refine VC.seq ?_ | refine VC.block ?_ | refine VC.skip ?_)
  refine VC.region ?_
  refine VR.pure rfl rfl (p_assignL rfl) ?_
  refine VR.nil ?_
  repeat (first | refine VC.seq ?_ | refine VC.block ?_ | refine VC.skip ?_)
  refine VC.region ?_
  refine VR.pure rfl rfl (p_assignL rfl) ?_
  refine VR.nil ?_
  replace hm := hm.nil_
  repeat (first | refine VC.seq ?_ | refine VC.block ?_ | refine VC.skip ?_)
  refine VC.region ?_
  refine VR.pure rfl rfl (p_moveL rfl) ?_
  refine VR.pure rfl rfl (p_moveL rfl) ?_
  refine VR.append (s := 1) (bytes := 1) Try.underlying22 inf5 rfl rfl rfl rfl rfl rfl rfl rfl rfl hm (OwnS.nil _ _) (hr1.mono hm.fix) (bytes_one l) (Nat.zero_add n) ⟨by unfold maxLen; omega, by omega⟩ ?_
  intro A' c' w L' ho' hm
  refine VR.pure rfl rfl (p_assignL rfl) ?_
  refine VR.nil ?_
  repeat (first | refine VC.seq ?_ | refine VC.block ?_ | refine VC.skip ?_)
  refine VC.ret ⟨_, ResOf.r1 (v := .slice _ _ _) rfl rfl, ?_⟩
  exact ⟨A', c', L', rfl, ho', hm⟩

theorem all4 {a b c d : Sl} {xa xb xc xd : List Value} {La Lb Lc Ld : Blks} (ha : a.n ≤ 1000000000000) (hb : b.n ≤ 1000000000000) (hc : c.n ≤ 1000000000000) (hd : d.n ≤ 1000000000000)
    (oa : OwnS 5 1 a.A a.n a.c xa La) (ob : OwnS 5 1 b.A b.n b.c xb Lb) (oc : OwnS 5 1 c.A c.n c.c xc Lc) (od : OwnS 5 1 d.A d.n d.c xd Ld) :
    All [a, b, c, d] [La, Lb, Lc, Ld] (fun _ (it : Sl) L => it.n ≤ 1000000000000 ∧ ∃ xs, OwnS 5 1 it.A it.n it.c xs L) := by
  refine ⟨rfl, fun k it L hk hL => ?_⟩
  rcases k with _ | _ | _ | _ | k
  · obtain rfl := Option.some.inj (show some a = some it from hk)
    obtain rfl := Option.some.inj (show some La = some L from hL)
    exact ⟨ha, _, oa⟩
  · obtain rfl := Option.some.inj (show some b = some it from hk)
    obtain rfl := Option.some.inj (show some Lb = some L from hL)
    exact ⟨hb, _, ob⟩
  · obtain rfl := Option.some.inj (show some c = some it from hk)
    obtain rfl := Option.some.inj (show some Lc = some L from hL)
    exact ⟨hc, _, oc⟩
  · obtain rfl := Option.some.inj (show some d = some it from hk)
    obtain rfl := Option.some.inj (show some Ld = some L from hL)
    exact ⟨hd, _, od⟩
  · simp at hk
def kx1 (l : List Int) : Lk := ⟨5, 9, 0, 0, [l]⟩

set_option maxHeartbeats 8000000 in
theorem link_keeps_c {F : Env} {w : World} {A : Option Addr} {n c : Nat} {l : List Int} (hm : Mem F w []) (hn : n ≤ 140737488355328) (hr : BRow F.heap A n l) :
    Calls Try.prog 5 #[.slice A n c] w (Ret fun v w' => v = .bool true ∧ Mem F w' []) := by
  have hl := hr.len
  refine Calls.of_vc Try.func5 rfl Try.ntmps5 rfl ?_
  repeat (first | refine VC.seq ?_ | refine VC.block ?_ | refine VC.skip ?_)
  refine VC.region ?_
  refine VR.pure rfl rfl (p_assignB rfl) ?_
  refine VR.nil ?_
  repeat (first | refine VC.seq ?_ | refine VC.block ?_ | refine VC.skip ?_)
  refine VC.region ?_
  refine VR.call rfl rfl (r_call0 Try.call8) (awake_c hm) ?_
  rintro _ w ⟨rfl, hm⟩
  refine VR.pure rfl rfl (p_not rfl) ?_
  refine VR.nil ?_
  repeat (first | refine VC.seq ?_ | refine VC.block ?_ | refine VC.skip ?_)
  refine VC.condF rfl rfl ?_
  repeat (first | refine VC.seq ?_ | refine VC.block ?_ | refine VC.skip ?_)
  refine VC.region ?_
  refine VR.pure rfl rfl (p_moveL rfl) ?_
  refine VR.call rfl rfl (r_call1 Try.call18 rfl) (copyB_c hm hn hr) ?_
  rintro _ w ⟨A3, c3, L3, rfl, ho3, hm⟩
  refine VR.pure rfl rfl (p_assignL rfl) ?_
  refine VR.nil ?_
  repeat (first | refine VC.seq ?_ | refine VC.block ?_ | refine VC.skip ?_)
  refine VC.region ?_
  refine VR.call rfl rfl (r_call1 Try.call15 rfl) (new_ok hm (by decide)) ?_
  rintro _ w ⟨g1, rfl, hm⟩
  refine VR.call rfl rfl (r_call1 Try.call15 rfl) (new_ok hm (by decide)) ?_
  rintro _ w ⟨g2, rfl, hm⟩
  refine VR.pure rfl rfl (p_assignP rfl) ?_
  refine VR.pure rfl rfl (p_assignP rfl) ?_
  refine VR.nil ?_
  replace hm := hm.other
  have hm2 : Mem F w ([(g1, .cells #[.int .i64 5, .int .i64 0, .int .i64 0, .int .i64 0, .slice none 0 0] 33 (0, 0))] :: [] :: [(g2, .cells #[.int .i64 9, .int .i64 0, .int .i64 0, .int .i64 0, .slice none 0 0] 33 (0, 0))] :: [] :: L3 :: []) := hm
  replace hm := hm2
  clear hm2
  have hcon := send_p hm (LkAt.new _ 5) (ho3.row1 (hm.pop.pop.plus_i 2 rfl)) (d := c3)
  by_cases hs : 0 < n ∧ n ≤ 1048476
  · have es : (lk0 5).send l = (0, ⟨5, 0, 0, 0, [l]⟩) := by
      unfold Lk.send lk0
      rw [if_neg (by unfold Lk.there; decide), if_neg (by omega), if_neg (by omega), if_neg (by simp)]
      rfl
    rw [es] at hcon
    repeat (first | refine VC.seq ?_ | refine VC.block ?_ | refine VC.skip ?_)
    refine VC.region ?_
    refine VR.pure rfl rfl (p_moveP rfl) ?_
    refine VR.pure rfl rfl (p_moveL rfl) ?_
    refine VR.call rfl rfl (r_call2 Try.call10 rfl rfl) (hcon) ?_
    rintro _ w ⟨G, cs1, L1, rfl, hu, hkx, hm⟩
    refine VR.pure rfl rfl (p_ne rfl rfl) ?_
    refine VR.nil ?_
    dsimp only at hkx
    have hky : LkAt G.heap kb0 #[.int .i64 9, .int .i64 0, .int .i64 0, .int .i64 0, .slice none 0 0] [] := LkAt.new _ 9
    repeat (first | refine VC.seq ?_ | refine VC.block ?_ | refine VC.skip ?_)
    refine VC.condF rfl rfl ?_
    have eo0 : (⟨5, 0, 0, 0, [l]⟩ : Lk).out = pk0 := by simp [Lk.out, Lk.there, pk0]
    have et0 : kb0.take pk0 = (none, false, kb1) := by simp [Lk.take, Lk.meet, Lk.there, kb0, kb1, pk0]
    have eo1 : kb1.out = pk1 := by simp [Lk.out, Lk.there, kb1, pk1]
    have et1 : (⟨5, 0, 0, 0, [l]⟩ : Lk).take pk1 = (none, false, kx1 l) := by simp [Lk.take, Lk.meet, Lk.done, Lk.there, kx1, pk1]
    have eo2 : (kx1 l).out = ⟨5, 9, 1, 0, l⟩ := by simp [Lk.out, Lk.there, kx1]
    have et2 : kb1.take ⟨5, 9, 1, 0, l⟩ = (some l, false, kb2) := by simp [Lk.take, Lk.meet, Lk.done, Lk.there, kb1, kb2]
    clear hcon
    have hcon := out_c hm hkx (by unfold Lk.ok; simp)
    rw [eo0] at hcon
    repeat (first | refine VC.seq ?_ | refine VC.block ?_ | refine VC.skip ?_)
    refine VC.region ?_
    refine VR.pure rfl rfl (p_moveP rfl) ?_
    refine VR.pure rfl rfl (p_moveP rfl) ?_
    refine VR.call rfl rfl (r_call1 Try.call14 rfl) (hcon) ?_
    rintro _ w ⟨A5, c5, L5, rfl, ho5, hm⟩
    obtain ⟨G3, hu3, hm, hG3⟩ := hm.freeze
    replace hm := hm.other
    replace hkx := hkx.mono hu3.heap
    replace hky := hky.mono hu3.heap
    replace hu := hu.trans hu3
    have hcon2 := take_c hm hky (by unfold Lk.ok kb0; decide) (BRow.own ho5 hG3) (by unfold pk0; decide) (d := c5)
    rw [et0] at hcon2
    dsimp only [Option.getD, Option.isSome, List.length] at hcon2
    refine VR.call rfl rfl (r_call2 Try.call9 rfl rfl) (hcon2) ?_
    rintro _ w ⟨cs6, L6, A6, c6, M6, rfl, hkb, ho6, hm⟩
    replace hm := hm.pop
    refine VR.nil ?_
    clear hcon hcon2 hky ho5 ho6
    have hcon := out_c hm hkb (by unfold Lk.ok kb1; decide)
    rw [eo1] at hcon
    repeat (first | refine VC.seq ?_ | refine VC.block ?_ | refine VC.skip ?_)
    refine VC.region ?_
    refine VR.pure rfl rfl (p_moveP rfl) ?_
    refine VR.pure rfl rfl (p_moveP rfl) ?_
    refine VR.call rfl rfl (r_call1 Try.call14 rfl) (hcon) ?_
    rintro _ w ⟨A7, c7, L7, rfl, ho7, hm⟩
    obtain ⟨G4, hu4, hm, hG4⟩ := hm.freeze
    replace hm := hm.other
    replace hkx := hkx.mono hu4.heap
    replace hkb := hkb.mono hu4.heap
    replace hu := hu.trans hu4
    have hcon2 := take_c hm hkx (by unfold Lk.ok; simp) (BRow.own ho7 hG4) (by unfold pk1; decide) (d := c7)
    rw [et1] at hcon2
    dsimp only [Option.getD, Option.isSome, List.length] at hcon2
    refine VR.call rfl rfl (r_call2 Try.call9 rfl rfl) (hcon2) ?_
    rintro _ w ⟨cs8, L8, A8, c8, M8, rfl, hka, ho8, hm⟩
    replace hm := hm.pop
    refine VR.nil ?_
    clear hcon hcon2 hkx ho7 ho8
    have hcon := out_c hm hka (by unfold Lk.ok kx1; simp)
    rw [eo2] at hcon
    dsimp only at hcon
    rw [hl] at hcon
    repeat (first | refine VC.seq ?_ | refine VC.block ?_ | refine VC.skip ?_)
    refine VC.region ?_
    refine VR.pure rfl rfl (p_moveP rfl) ?_
    refine VR.call rfl rfl (r_call1 Try.call14 rfl) (hcon) ?_
    rintro _ w ⟨P1, d1, M1, rfl, hp1, hm⟩
    refine VR.pure rfl rfl (p_moveP rfl) ?_
    replace hm := (((((hm.pull 5 rfl).pull 5 rfl).pull 5 rfl).pull 5 rfl).pull 5 rfl)
    have hcon2 := out_c hm hka (by unfold Lk.ok kx1; simp)
    rw [eo2] at hcon2
    dsimp only at hcon2
    rw [hl] at hcon2
    refine VR.call rfl rfl (r_call1 Try.call14 rfl) (hcon2) ?_
    rintro _ w ⟨P2, d2, M2, rfl, hp2, hm⟩
    refine VR.new hm rfl rfl (n_allocG Try.zeroValue24) ?_
    intro b6 w hm
    refine VR.new hm rfl rfl (n_allocG Try.zeroValue24) ?_
    intro b7 w hm
    refine VR.store (cs' := #[.int .i64 5, .int .i64 9, .int .i64 1, .int .i64 0, .slice P1 n d1]) (v := .agg _) Try.sizeOf24 rfl rfl rfl rfl rfl hm 1 0 rfl (Nat.ble_eq.mp rfl) rfl ?_
    intro w hm
    refine VR.store (cs' := #[.int .i64 5, .int .i64 9, .int .i64 1, .int .i64 0, .slice P2 n d2]) (v := .agg _) Try.sizeOf24 rfl rfl rfl rfl rfl hm 0 0 rfl (Nat.ble_eq.mp rfl) rfl ?_
    intro w hm
    refine VR.nil ?_
    clear hcon hcon2
    have hm2 := ((((((hm.pull 1 rfl).pull 2 rfl).pull 8 rfl).pull 8 rfl).pull 8 rfl).pull 8 rfl)
    replace hm : Mem G4 _ ([[(g2, .cells cs6 33 (0, 0))], L6] ++ [L3, M1, M2, [(b6, .cells #[.int .i64 5, .int .i64 9, .int .i64 1, .int .i64 0, .slice P1 n d1] 24 (0, 0))], [(b7, .cells #[.int .i64 5, .int .i64 9, .int .i64 1, .int .i64 0, .slice P2 n d2] 24 (0, 0))],
      [(g1, .cells cs8 33 (0, 0))], L8]) := hm2
    clear hm2
    have hb6 := (show Mem G4 _ [L3, M1, M2, [(b6, _)], [(b7, _)], [(g1, _)], L8] from hm.pop.pop).plus_i 3 rfl _ (.head _)
    have hM1 := hp1.row1 ((show Mem G4 _ [L3, M1, M2, [(b6, _)], [(b7, _)], [(g1, _)], L8] from hm.pop.pop).plus_i 1 rfl)
    have hcon := take_c (p := ⟨5, 9, 1, 0, l⟩) hm.focus (hkb.mono hm.leR) (by unfold Lk.ok kb1; decide) hM1 hn (d := d1)
    rw [et2] at hcon
    dsimp only [Option.getD, Option.isSome] at hcon
    rw [hl] at hcon
    repeat (first | refine VC.seq ?_ | refine VC.block ?_ | refine VC.skip ?_)
    refine VC.region ?_
    refine VR.pure rfl rfl (p_moveP rfl) ?_
    refine VR.val rfl rfl (r_loadAgg (vs := [.int _ _, .int _ _, .int _ _, .int _ _, .slice _ _ _]) Try.isAgg24 Try.sizeOf24 rfl (hm.focus.fix _ _ hb6) rfl (agg_at rfl)) ?_
    refine VR.call rfl rfl (r_call2 Try.call9 rfl rfl) (hcon) ?_
    rintro _ w ⟨cs9, L9, A9, c9, M9, rfl, _, ho9, hm'⟩
    replace hm := hm.unfocus hm'
    refine VR.pure rfl rfl (p_moveT rfl) ?_
    refine VR.pure rfl rfl (p_extract rfl rfl) ?_
    refine VR.pure rfl rfl (p_extract rfl rfl) ?_
    refine VR.pure rfl rfl (p_extract rfl rfl) ?_
    refine VR.pure rfl rfl (p_assignL rfl) ?_
    refine VR.pure rfl rfl (p_assignB rfl) ?_
    refine VR.pure rfl rfl (p_assignB rfl) ?_
    refine VR.nil ?_
    clear hcon hb6 hM1 hm'
    have hm2 := ((((((hm.pull 7 rfl).pull 7 rfl).pull 2 rfl).pull 7 rfl).pull 7 rfl).pull 7 rfl)
    replace hm : Mem G4 w ([L3, M1, M2, M9] ++ [[(b6, .cells #[.int .i64 5, .int .i64 9, .int .i64 1, .int .i64 0, .slice P1 n d1] 24 (0, 0))], [(b7, .cells #[.int .i64 5, .int .i64 9, .int .i64 1, .int .i64 0, .slice P2 n d2] 24 (0, 0))],
      [(g2, .cells cs9 33 (0, 0))], L9, [(g1, .cells cs8 33 (0, 0))], L8]) := hm2
    clear hm2
    have hrG := hr.mono hu.heap
    repeat (first | refine VC.seq ?_ | refine VC.block ?_ | refine VC.skip ?_)
    refine VC.region ?_
    refine VR.pure rfl rfl (p_moveB rfl) ?_
    refine VR.pure rfl rfl (p_moveB rfl) ?_
    refine VR.knownT 49 rfl rfl ?_
    refine VR.pureG rfl rfl (p_moveL rfl) ?_
    refine VR.pureG rfl rfl (p_moveL rfl) ?_
    refine VR.callG rfl rfl (r_call2 Try.call19 rfl rfl) (same_bytes_c hm.all (by unfold maxLen; omega) (ho9.row1 (hm.plus_i 3 rfl)) (hrG.mono hm.le)) ?_
    rintro _ w ⟨rfl, hm'⟩
    replace hm := hm.back0 hm'
    refine VR.pure rfl rfl (p_pickT rfl rfl) ?_
    refine VR.pure rfl rfl (p_moveB rfl) ?_
    refine VR.knownT 54 rfl (decide_eq_true rfl) ?_
    refine VR.pureG rfl rfl (p_field (fo := 4) Try.underlying24 rfl Try.sizeOf22 rfl rfl rfl) ?_
    refine VR.valG rfl rfl (r_load (v := .slice _ _ _) Try.isAgg22 rfl (hm.at_ 5 0 rfl) rfl) ?_
    refine VR.pureG rfl rfl (p_moveL rfl) ?_
    refine VR.callG rfl rfl (r_call2 Try.call19 rfl rfl) (same_bytes_c hm.all (by unfold maxLen; omega) (hp2.row1 (hm.plus_i 2 rfl)) (hrG.mono hm.le)) ?_
    rintro _ w ⟨rfl, hm'⟩
    replace hm := hm.back0 hm'
    refine VR.pure rfl rfl (p_pickT rfl rfl) ?_
    refine VR.pure rfl rfl (p_moveB rfl) ?_
    refine VR.knownT 60 rfl (decide_eq_true rfl) ?_
    refine VR.pureG rfl rfl (p_moveL rfl) ?_
    refine VR.pureG rfl rfl (p_field (fo := 4) Try.underlying24 rfl Try.sizeOf22 rfl rfl rfl) ?_
    refine VR.valG rfl rfl (r_load (v := .slice _ _ _) Try.isAgg22 rfl (hm.at_ 4 0 rfl) rfl) ?_
    refine VR.pureG rfl rfl (p_field (fo := 4) Try.underlying24 rfl Try.sizeOf22 rfl rfl rfl) ?_
    refine VR.valG rfl rfl (r_load (v := .slice _ _ _) Try.isAgg22 rfl (hm.at_ 5 0 rfl) rfl) ?_
    refine VR.pureG rfl rfl (p_moveL rfl) ?_
    refine VR.newG hm rfl rfl (n_buildSlice1 (vs := [.slice _ _ _, .slice _ _ _, .slice _ _ _, .slice _ _ _]) Try.underlying29 inf22 rfl rfl rfl rfl rfl rfl rfl) ?_
    intro b19 w hm
    obtain ⟨G5, hu5, hm, hG5⟩ := hm.freeze
    have hrow : Row G5.heap (some ⟨b19, 0, none⟩) 4 (slcells [⟨A3, n, c3⟩, ⟨P1, n, d1⟩, ⟨P2, n, d2⟩, ⟨A9, n, c9⟩]) := Row.lit (cs := [.slice A3 n c3, .slice P1 n d1, .slice P2 n d2, .slice A9 n c9]) (hG5 _ (.head _))
    have hall := all4 (a := ⟨A3, n, c3⟩) (b := ⟨P1, n, d1⟩) (c := ⟨P2, n, d2⟩) (d := ⟨A9, n, c9⟩) (by show n ≤ _; omega) (by show n ≤ _; omega) (by show n ≤ _; omega) (by show n ≤ _; omega) ho3 hp1 hp2 ho9
    refine VR.callG rfl rfl (r_call1 Try.call20 rfl) (apart_bytes_c hm hrow (by omega) hall) ?_
    rintro _ w ⟨rfl, hm⟩
    refine VR.pure rfl rfl (p_pickT rfl rfl) ?_
    refine VR.pure rfl rfl (p_assignB rfl) ?_
    refine VR.nil ?_
    repeat (first | refine VC.seq ?_ | refine VC.block ?_ | refine VC.skip ?_)
    refine VC.ret ⟨_, ResOf.r1 (v := .bool _) rfl rfl, ?_⟩
    exact ⟨rfl, hm.none_.shrink (hu.trans hu5)⟩
  · have es : ∃ e, e ≠ 0 ∧ (lk0 5).send l = (e, lk0 5) := by
      unfold Lk.send lk0
      by_cases h0 : n = 0
      · exact ⟨2, by decide, by rw [if_neg (by unfold Lk.there; decide), if_pos (by omega)]⟩
      · exact ⟨3, by decide, by rw [if_neg (by unfold Lk.there; decide), if_neg (by omega), if_pos (by omega)]⟩
    obtain ⟨e, he, es⟩ := es
    rw [es] at hcon
    repeat (first | refine VC.seq ?_ | refine VC.block ?_ | refine VC.skip ?_)
    refine VC.region ?_
    refine VR.pure rfl rfl (p_moveP rfl) ?_
    refine VR.pure rfl rfl (p_moveL rfl) ?_
    refine VR.call rfl rfl (r_call2 Try.call10 rfl rfl) (hcon) ?_
    rintro _ w ⟨G, cs1, L1, rfl, hu, hkx, hm⟩
    refine VR.pure rfl rfl (p_ne rfl rfl) ?_
    refine VR.nil ?_
    repeat (first | refine VC.seq ?_ | refine VC.block ?_ | refine VC.skip ?_)
    refine VC.condT rfl (decide_eq_true he) ?_
    by_cases h0 : n = 0
    · repeat (first | refine VC.seq ?_ | refine VC.block ?_ | refine VC.skip ?_)
      refine VC.region ?_
      refine VR.pure rfl rfl (p_moveL rfl) ?_
      refine VR.pure rfl rfl (p_len Try.underlying22 rfl) ?_
      refine VR.pure rfl rfl (p_eq rfl rfl) ?_
      refine VR.pure rfl rfl (p_moveB rfl) ?_
      refine VR.knownT 24 rfl (decide_eq_true (by omega)) ?_
      refine VR.pass rfl rfl ?_
      refine VR.pass rfl rfl ?_
      refine VR.pass rfl rfl ?_
      refine VR.pure rfl rfl (p_pickT rfl rfl) ?_
      refine VR.pure rfl rfl (p_assignB rfl) ?_
      refine VR.nil ?_
      repeat (first | refine VC.seq ?_ | refine VC.block ?_ | refine VC.skip ?_)
      refine VC.ret ⟨_, ResOf.r1 (v := .bool _) rfl rfl, ?_⟩
      exact ⟨rfl, hm.none_.shrink hu⟩
    · repeat (first | refine VC.seq ?_ | refine VC.block ?_ | refine VC.skip ?_)
      refine VC.region ?_
      refine VR.pure rfl rfl (p_moveL rfl) ?_
      refine VR.pure rfl rfl (p_len Try.underlying22 rfl) ?_
      refine VR.pure rfl rfl (p_eq rfl rfl) ?_
      refine VR.pure rfl rfl (p_moveB rfl) ?_
      refine VR.knownF 24 rfl (decide_eq_false (by omega)) ?_
      refine VR.pureG rfl rfl (p_moveL rfl) ?_
      refine VR.pureG rfl rfl (p_len Try.underlying22 rfl) ?_
      refine VR.pureG rfl rfl (p_gt rfl rfl) ?_
      refine VR.pure rfl rfl (p_pickF rfl rfl) ?_
      refine VR.pure rfl rfl (p_assignB rfl) ?_
      refine VR.nil ?_
      repeat (first | refine VC.seq ?_ | refine VC.block ?_ | refine VC.skip ?_)
      refine VC.ret ⟨_, ResOf.r1 (v := .bool _) rfl rfl, ?_⟩
      exact ⟨congrArg Value.bool (decide_eq_true (by omega)), hm.none_.shrink hu⟩
end Go.Bd
namespace Go.Proofs.Ytfaihpikeagpcaa
open Go.Bd Go.ChangeShapes Go.WideShapes

set_option maxRecDepth 100000 in
theorem keeps_lifted (os : Os) (started : os.Started) (H : Type) (enc : TypeId × Value → H) :
    ReturnsInHanded {} Try.checked os 5 .any (Rows.linkKeepsSpec.pre6 enc Try.prog Try.f5 Rows.linkKeepsRow.domain false) (Rows.linkKeepsSpec.post enc Try.prog Try.f5 false true false false) := by
  refine law_frame (C := Try.checked) (tb := 4) (by kernel_rfl) (by kernel_rfl) started (by kernel_rfl) Try.func5 rfl rfl Try.underlying4 (by kernel_rfl) ?_
    (ChangeSpec.witness6 (enc := enc) (C := Try.checked) false ⟨#[], #[.slice none 0 0], []⟩ 8 (by kernel_rfl) (by kernel_rfl) (by kernel_rfl) (by kernel_rfl)) ?_
  · intro ds hl
    match ds, hl with
    | [d1], _ => rfl
  · intro W base args ds p hval hA hwt
    replace hA : DataW.TrodAll enc Try.prog W 0 (fun _ => true) true Try.f5.params.toList args.toList ds p := hA
    rw [Try.params5] at hA hval
    replace hwt : (DataW.weightsEach Try.prog [22] ds).all (· ≤ reachBytes) = true := hwt
    obtain ⟨v0, vs0, d0, ds0, p0, q0, hargs, rfl, rfl, h0, r0⟩ := trodAll_cons hA
    obtain ⟨rfl, rfl, rfl⟩ := trodAll_nil r0
    obtain rfl : args = #[v0] := by cases args; simp_all
    obtain ⟨A0, n0, c0, xs0, rfl, hn0, hc0, hr0, w0, hd0⟩ := arg_ints Try.underlying22 Try.underlying5 (by kernel_rfl) (hval 0 22 v0 rfl rfl) h0
    have hlight := (LightAll.cons hwt).1
    obtain ⟨A0', n0', c0', xs0', e0, q0, q1, q2, q3, _⟩ := arg22 (hval 0 22 _ rfl rfl) h0 hlight
    cases e0
    exact link_keeps_c (Mem.of W) (by unfold reachBytes at q2; omega) q3

theorem keeps : Rows.LinkKeepsSaid :=
  OpenClaim.holds_of_wide 5 Try.f5 rfl rfl rfl rfl rfl rfl rfl ⟨rfl, rfl, rfl, rfl, rfl⟩ rfl rfl rfl rfl rfl (by kernel_rfl) Try.func5 (by kernel_rfl)
    (of_decide_eq_true (by kernel_rfl)) (by unfold Func.isWrapper; rw [if_neg (of_decide_eq_false (by kernel_rfl))]; exact ⟨rfl, rfl⟩)
    (fun os started H enc _ => keeps_lifted os started H enc)
end Go.Proofs.Ytfaihpikeagpcaa
