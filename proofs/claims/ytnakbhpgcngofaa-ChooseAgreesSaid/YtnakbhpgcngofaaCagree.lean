/- ChooseAgrees: choosers of one config that tell one another their votes till nothing turns any more all take one server: the voter that knows most. Conditions: none. -/
import Derived.Test.Ytnakbhpgcngofaa20i
namespace Go.Bd
open Go.Proofs Go.ChangeShapes Go.WideShapes
set_option linter.unusedVariables false
set_option linter.unusedSimpArgs false
set_option maxRecDepth 20000

/-- A chooser as it was made: of a server's number, epoch and zxid. -/
structure Ini (E : Int × List Mb) (i : Nat) (s : Sv) (a : Ca) : Prop where
  id : a.id = (i + 1 : Nat)
  me : a.me = ⟨(i + 1 : Nat), s.e, s.z⟩
  es : a.es = [E]
  v : a.v = own a
  hs : a.hs = []
  calm : a.calm = 0
theorem ini_new (E : Int × List Mb) (i : Nat) (s : Sv) : Ini E i s (newA (i + 1 : Nat) s.e s.z [E]) := ⟨rfl, rfl, rfl, rfl, rfl, rfl⟩
theorem Ini.begin {E : Int × List Mb} {i : Nat} {s : Sv} {a : Ca} (h : Ini E i s a) : Ini E i s (beginA a s.e s.z [E]) :=
  ⟨h.id, by show (⟨a.id, s.e, s.z⟩ : Vt) = _; rw [h.id], rfl, rfl, rfl, rfl⟩
/-- Which of the first servers is the best voter. -/
def BestAt (ms : List Mb) (sv : List Sv) (i : Nat) (best : Int) : Prop :=
  (best = -1 ∧ ∀ j, j < i → voterE ms (j + 1 : Nat) = false) ∨
  ∃ b s, best = (b : Nat) ∧ b < i ∧ sv[b]? = some s ∧ voterE ms (b + 1 : Nat) = true ∧ ∀ j s', j < i → sv[j]? = some s' → voterE ms (j + 1 : Nat) = true → leV ⟨(j + 1 : Nat), s'.e, s'.z⟩ ⟨(b + 1 : Nat), s.e, s.z⟩
abbrev ptrs (gs : List Nat) : List Value := gs.map fun g => .pointer (some ⟨g, 0, none⟩)
theorem ptrs_one (gs : List Nat) : ∀ u ∈ ptrs gs, u.oneCell' = true := by
  intro u hu
  obtain ⟨g, _, rfl⟩ := List.mem_map.1 hu
  rfl
theorem ptrs_at {gs : List Nat} {i g : Nat} (h : gs[i]? = some g) : (ptrs gs)[i]? = some (.pointer (some ⟨g, 0, none⟩)) := by
  rw [List.getElem?_map, h]
  rfl
def stOf (cs : List Cx) (j : Nat) : Ca := ((cs[j]?).map fun x => x.C.abs).getD ⟨0, v0, [], 0, v0, [], 0⟩
theorem chk_pair : ∀ (ms : List Mb) (last wt r : Int), chkGo last wt ms = some r → (∀ m ∈ ms, last < m.id) ∧ ms.Pairwise fun x y => x.id < y.id
  | [], _, _, _, _ => ⟨by simp, List.Pairwise.nil⟩
  | m :: t, last, wt, r, h => by
    rw [chkGo_cons] at h
    by_cases h1 : mbOk last m
    · rw [if_pos h1] at h
      obtain ⟨h2, h3⟩ := chk_pair t _ _ _ h
      have h4 : last < m.id := h1.1
      refine ⟨fun x hx => ?_, List.pairwise_cons.2 ⟨h2, h3⟩⟩
      rcases List.mem_cons.1 hx with rfl | hx
      · exact h4
      · have := h2 x hx
        omega
    · rw [if_neg h1] at h
      cases h
theorem chk_sum : ∀ (ms : List Mb) (last wt r : Int), (∀ m ∈ ms, m.weight = 0) → chkGo last wt ms = some r → r = wt
  | [], _, _, _, _, h => (Option.some.inj h).symm
  | m :: t, last, wt, r, h0, h => by
    rw [chkGo_cons] at h
    by_cases h1 : mbOk last m
    · rw [if_pos h1] at h
      have h2 := chk_sum t m.id (wt + m.weight) r (fun x hx => h0 x (.tail _ hx)) h
      have := h0 m (.head _)
      omega
    · rw [if_neg h1] at h
      cases h
theorem chk_voter {ver : Int} {ms : List Mb} (hc : checkE ver ms = 0) : ∃ j, j < 7 ∧ voterE ms (j + 1 : Nat) = true := by
  obtain ⟨h7, hfit⟩ := check_fit hc
  have hrole := check_role hc
  have hids := chk_ids hc
  have hc2 := hc
  unfold checkE at hc2
  rw [if_neg (by omega)] at hc2
  cases hq : chkGo 0 0 ms with
  | none =>
    rw [hq] at hc2
    exact absurd (show (140 : Int) = 0 from hc2) (by decide)
  | some r =>
    obtain ⟨m, hm, hmw⟩ : ∃ m ∈ ms, m.weight ≠ 0 := Classical.byContradiction fun hno => by
      have := chk_sum ms 0 0 r (fun m hm => Classical.byContradiction fun h => hno ⟨m, hm, h⟩) hq
      rw [hq] at hc2
      subst this
      exact absurd (show (140 : Int) = 0 from hc2) (by decide)
    have hp := (chk_pair ms 0 0 r hq).2
    have hi := hids m hm
    obtain ⟨k, hk, hkm⟩ := List.mem_iff_getElem.1 hm
    have hf : findE ms m.id = some m := find_first (k := k) (by rw [List.getElem?_eq_getElem hk, hkm]) rfl fun j x hj hx => by
      obtain ⟨hj2, rfl⟩ := List.getElem?_eq_some_iff.1 hx
      have := List.pairwise_iff_getElem.1 hp j k hj2 hk hj
      rw [hkm] at this
      omega
    refine ⟨m.id.toNat - 1, by omega, ?_⟩
    rw [show ((m.id.toNat - 1 + 1 : Nat) : Int) = m.id by omega]
    unfold voterE
    rw [hf]
    exact decide_eq_true (Classical.byContradiction fun h => hmw (hrole m hm h))
theorem max_at (f : Nat → Int) : ∀ n, ∃ j, j < n + 1 ∧ ∀ i, i < n + 1 → f i ≤ f j
  | 0 => ⟨0, by omega, fun i hi => by
    have h0 : i = 0 := by omega
    rw [h0]
    exact Int.le_refl _⟩
  | n + 1 => by
    obtain ⟨j, hj, h⟩ := max_at f n
    by_cases e : f j ≤ f (n + 1)
    · refine ⟨n + 1, by omega, fun i hi => ?_⟩
      by_cases e2 : i = n + 1
      · subst e2
        exact Int.le_refl _
      · have := h i (by omega)
        omega
    · refine ⟨j, by omega, fun i hi => ?_⟩
      by_cases e2 : i = n + 1
      · subst e2
        omega
      · exact h i (by omega)
theorem Ini.own {ver : Int} {ms : List Mb} {i : Nat} {s : Sv} {a : Ca} (h : Ini (ver, ms) i s a) : own a = if voterE ms (i + 1 : Nat) = true then ⟨(i + 1 : Nat), s.e, s.z⟩ else v0 := by
  unfold Go.Bd.own ownA
  rw [h.es, h.id, h.me]
  show (if (voterE ms (i + 1 : Nat) || false) = true then _ else _) = _
  rw [Bool.or_false]
theorem begun {ver : Int} {ms : List Mb} {l : List Sv} {S : Nat → Ca} {best : Int} (hc : checkE ver ms = 0) (hin : ∀ j s', j < 7 → l[j]? = some s' → Ini (ver, ms) j s' (S j) ∧ 0 ≤ s'.e ∧ 0 ≤ s'.z) (hl : 7 ≤ l.length) (hb : BestAt ms l 7 best) :
    ∃ (b : Nat) (s : Sv), best = (b : Int) ∧ b < 7 ∧ own (S b) = ⟨(b + 1 : Nat), s.e, s.z⟩ ∧ True ∧ ∃ j, j < 7 ∧ JS (ver, ms) ⟨(b + 1 : Nat), s.e, s.z⟩ (S j).round S ∧ (S j).round = (S j).round := by
  rcases hb with ⟨_, hno⟩ | ⟨b, s, rfl, hb7, hsb, hvb, hle⟩
  · obtain ⟨j, hj, hv⟩ := chk_voter hc
    rw [hno j hj] at hv
    cases hv
  · obtain ⟨j, hj, hmax⟩ := max_at (fun i => (S i).round) 6
    have get : ∀ i, i < 7 → ∃ s', l[i]? = some s' ∧ Ini (ver, ms) i s' (S i) ∧ 0 ≤ s'.e ∧ 0 ≤ s'.z := fun i hi => by
      obtain ⟨s', hs', _⟩ := get_of (xs := l) (k := i) (by omega)
      exact ⟨s', hs', hin i s' hi hs'⟩
    have hsb0 := (hin b s hb7 hsb).2
    have hown : ∀ i, i < 7 → leV (own (S i)) ⟨(b + 1 : Nat), s.e, s.z⟩ := fun i hi => by
      obtain ⟨s', hs', hI, _⟩ := get i hi
      rw [hI.own]
      by_cases hv : voterE ms (i + 1 : Nat) = true
      · rw [if_pos hv]
        exact hle i s' hi hs' hv
      · rw [if_neg hv, leV_iff]
        show (0 : Int) < s.e ∨ (0 : Int) = s.e ∧ ((0 : Int) < s.z ∨ (0 : Int) = s.z ∧ (0 : Int) ≤ ((b + 1 : Nat) : Int))
        omega
    refine ⟨b, s, rfl, hb7, ?_, trivial, j, hj, ⟨fun i hi => ?_, fun i hi => ?_, fun i hi => hmax i hi, fun i hi => ?_, fun i hi => ?_, hown, fun i hi => ?_⟩, rfl⟩
    · rw [(hin b s hb7 hsb).1.own, if_pos hvb]
    · obtain ⟨s', hs', hI, _⟩ := get i hi
      exact hI.id
    · obtain ⟨s', hs', hI, _⟩ := get i hi
      exact hI.es
    · obtain ⟨s', hs', hI, _⟩ := get i hi
      rw [hI.v]
      exact leV_refl _
    · obtain ⟨s', hs', hI, _⟩ := get i hi
      rw [hI.v]
      exact hown i hi
    · obtain ⟨s', hs', hI, _⟩ := get i hi
      exact hI.calm
theorem open_en {H : Type} {enc : TypeId × Value → H} {W : World} {v : Value} {d : DataW H} {ps : List MemPlace} {r : Reach} {base : Nat} (hv : Value.okWide Try.prog W r base 42 v) (h : DataW.Trod enc Try.prog W 0 (fun _ => true) true 42 v d ps) (hw : Light Try.prog 42 d) :
    ∃ e : En, v = .agg #[.int .i64 e.ver, .slice e.A e.n e.c] ∧ EnOk (Env.of W).heap e ∧ e.c * 32 ≤ reachBytes := by
  obtain ⟨cs, rfl, _⟩ := okWide_struct Try.underlying42 hv
  obtain ⟨fuel, hf⟩ := h
  obtain ⟨e, he, h1, h2⟩ := open_ens _ _ _ hf hw
  have h3 : cs.toList = e.cells := he
  refine ⟨e, ?_, h1, h2⟩
  show Value.agg cs = .agg e.cells.toArray
  rw [← h3]
theorem one_row {H : Nat → Option Obj} {b : Nat} {T : TypeId} {e : En} (h : H b = some (.cells #[.int .i64 e.ver, .slice e.A e.n e.c] T (0, 0))) (hok : EnOk H e) : ERow H (some ⟨b, 0, none⟩) 1 [e] :=
  ⟨Row.lit (cs := [.int .i64 e.ver, .slice e.A e.n e.c]) h, fun x hx => by rw [List.mem_singleton.1 hx]; exact hok⟩
theorem one_small {e : En} (h : e.n * 32 ≤ 140737488355328) : ∀ x ∈ [e], x.n * 32 ≤ 140737488355328 := fun x hx => by rw [List.mem_singleton.1 hx]; exact h
theorem flat_perm (P A B L : Blks) (bs : List Blks) : (P :: A :: B :: L :: (bs ++ [])).flatten.Perm (A :: B :: (bs ++ (P :: L :: []))).flatten := by
  have h1 : (P ++ ((A ++ B) ++ (L ++ bs.flatten))).Perm ((A ++ B) ++ (bs.flatten ++ (P ++ L))) := by
    refine List.perm_append_comm.trans ?_
    rw [List.append_assoc]
    refine List.Perm.append_left _ ?_
    rw [List.append_assoc]
    refine List.perm_append_comm.trans ?_
    rw [List.append_assoc]
  simpa using h1
theorem flat_perm2 (P L : Blks) (bs : List Blks) : (bs ++ (P :: L :: [])).flatten.Perm (P :: L :: (bs ++ [])).flatten := by
  have := List.perm_append_comm (l₁ := bs.flatten) (l₂ := P ++ L)
  simpa using this
set_option maxHeartbeats 8000000 in
theorem choose_agrees_c {F : Env} {w : World} {e : En} {A1 A2 : Option Addr} {n1 c1 n2 c2 : Nat} {sv : List Sv} {xs : List Int} (hen : e.n ≤ maxLen) (he : MRow F.heap e.A e.n e.ms) (hok : EnOk F.heap e) (hsm : e.n * 32 ≤ 140737488355328)
    (hsv : Row F.heap A1 (n1 * 3) (sv.flatMap Sv.cells)) (hsl : sv.length = n1) (hn1 : n1 * 24 ≤ 140737488355328) (hxs : Row F.heap A2 n2 (xs.map (Value.int .i64))) (hn2 : n2 ≤ maxLen) (hm : Mem F w []) :
    Calls Try.prog 5 #[.agg #[.int .i64 e.ver, .slice e.A e.n e.c], .slice A1 n1 c1, .slice A2 n2 c2] w (Ret fun v w' => v = .bool true ∧ Mem F w' []) := by
  have hxl : xs.length = n2 := by have := hxs.len; rwa [List.length_map] at this
  unfold maxLen at hn2
  refine Calls.of_vc Try.func5 rfl Try.ntmps5 rfl ?_
  repeat (first | refine VC.seq ?_ | refine VC.block ?_ | refine VC.skip ?_)
  refine VC.region ?_
  refine VR.new hm rfl rfl (n_boxG rfl) ?_
  intro b3 w hm
  refine VR.pure rfl rfl (p_assignB rfl) ?_
  refine VR.nil ?_
  obtain ⟨G0, hu0, hm, hb3⟩ := hm.freeze
  replace hb3 := hb3 _ (.head _)
  repeat (first | refine VC.seq ?_ | refine VC.block ?_ | refine VC.skip ?_)
  refine VC.region ?_
  refine VR.call rfl rfl (r_call0 Try.call7) (awake_c hm) ?_
  rintro _ w ⟨rfl, hm⟩
  refine VR.pure rfl rfl (p_not rfl) ?_
  refine VR.nil ?_
  repeat (first | refine VC.seq ?_ | refine VC.block ?_ | refine VC.skip ?_)
  refine VC.condF rfl rfl ?_
  repeat (first | refine VC.seq ?_ | refine VC.block ?_ | refine VC.skip ?_)
  refine VC.region ?_
  refine VR.val rfl rfl (r_loadAgg (vs := [.int .i64 e.ver, .slice e.A e.n e.c]) Try.isAgg42 Try.sizeOf42 rfl (hm.fix _ _ hb3) rfl (agg_at rfl)) ?_
  refine VR.call rfl rfl (r_call1 Try.call25 rfl) (check_c hm hen (he.mono hu0.heap)) ?_
  rintro _ w ⟨rfl, hm⟩
  refine VR.pure rfl rfl (p_ne rfl rfl) ?_
  refine VR.pure rfl rfl (p_moveB rfl) ?_
  refine VR.splitD 27 rfl (fun h3 => ?_) (fun h3 => ?_)
  refine VR.pass rfl rfl ?_
  refine VR.pass rfl rfl ?_
  refine VR.pass rfl rfl ?_
  refine VR.pure rfl rfl (p_pickT rfl rfl) ?_
  refine VR.pure rfl rfl (p_moveB rfl) ?_
  refine VR.pass rfl rfl ?_
  refine VR.pass rfl rfl ?_
  refine VR.pass rfl rfl ?_
  refine VR.pure rfl rfl (p_pickT rfl rfl) ?_
  refine VR.nil ?_
  rotate_left 1
  refine VR.pureG rfl rfl (p_moveL rfl) ?_
  refine VR.pureG rfl rfl (p_len Try.underlying69 rfl) ?_
  refine VR.pureG rfl rfl (p_lt rfl rfl) ?_
  refine VR.pure rfl rfl (p_pickF rfl rfl) ?_
  refine VR.pure rfl rfl (p_moveB rfl) ?_
  refine VR.splitD 32 rfl (fun h8 => ?_) (fun h8 => ?_)
  refine VR.pass rfl rfl ?_
  refine VR.pass rfl rfl ?_
  refine VR.pass rfl rfl ?_
  refine VR.pure rfl rfl (p_pickT rfl rfl) ?_
  refine VR.nil ?_
  rotate_left 1
  refine VR.pureG rfl rfl (p_moveL rfl) ?_
  refine VR.pureG rfl rfl (p_len Try.underlying70 rfl) ?_
  refine VR.pureG rfl rfl (p_gt rfl rfl) ?_
  refine VR.pure rfl rfl (p_pickF rfl rfl) ?_
  refine VR.nil ?_
  rotate_left 1
  · repeat (first | refine VC.seq ?_ | refine VC.block ?_ | refine VC.skip ?_)
    refine VC.condT rfl rfl ?_
    repeat (first | refine VC.seq ?_ | refine VC.block ?_ | refine VC.skip ?_)
    refine VC.region ?_
    refine VR.pure rfl rfl (p_assignB rfl) ?_
    refine VR.nil ?_
    repeat (first | refine VC.seq ?_ | refine VC.block ?_ | refine VC.skip ?_)
    refine VC.ret ⟨_, ResOf.r1 (v := .bool _) rfl rfl, ?_⟩
    exact ⟨rfl, hm.shrink hu0⟩
  · repeat (first | refine VC.seq ?_ | refine VC.block ?_ | refine VC.skip ?_)
    refine VC.condT rfl rfl ?_
    repeat (first | refine VC.seq ?_ | refine VC.block ?_ | refine VC.skip ?_)
    refine VC.region ?_
    refine VR.pure rfl rfl (p_assignB rfl) ?_
    refine VR.nil ?_
    repeat (first | refine VC.seq ?_ | refine VC.block ?_ | refine VC.skip ?_)
    refine VC.ret ⟨_, ResOf.r1 (v := .bool _) rfl rfl, ?_⟩
    exact ⟨rfl, hm.shrink hu0⟩
  repeat (first | refine VC.seq ?_ | refine VC.block ?_ | refine VC.skip ?_)
  refine VC.condD rfl (fun h12 => ?_) (fun h12 => ?_)
  · repeat (first | refine VC.seq ?_ | refine VC.block ?_ | refine VC.skip ?_)
    refine VC.region ?_
    refine VR.pure rfl rfl (p_assignB rfl) ?_
    refine VR.nil ?_
    repeat (first | refine VC.seq ?_ | refine VC.block ?_ | refine VC.skip ?_)
    refine VC.ret ⟨_, ResOf.r1 (v := .bool _) rfl rfl, ?_⟩
    exact ⟨rfl, hm.shrink hu0⟩
  have hck : checkE e.ver e.ms = 0 := Classical.not_not.1 h3
  have h7 : 7 ≤ n1 := by omega
  repeat (first | refine VC.seq ?_ | refine VC.block ?_ | refine VC.skip ?_)
  refine VC.region ?_
  refine VR.pure rfl rfl (p_assignL rfl) ?_
  refine VR.nil ?_
  repeat (first | refine VC.seq ?_ | refine VC.block ?_ | refine VC.skip ?_)
  refine VC.region ?_
  refine VR.pure rfl rfl (p_assignI rfl) ?_
  refine VR.nil ?_
  repeat (first | refine VC.seq ?_ | refine VC.block ?_ | refine VC.skip ?_)
  refine VC.region ?_
  refine VR.new hm rfl rfl (n_buildSlice0 Try.underlying69 inf74) ?_
  intro b37 w hm
  refine VR.pure rfl rfl (p_moveL rfl) ?_
  refine VR.append (s := 3) (bytes := 24) Try.underlying69 inf74 rfl rfl rfl rfl rfl rfl rfl rfl rfl hm (OwnS.made (c := 0) (by unfold maxLen; omega) rfl) ((hsv.mono hu0.heap).mono hm.fix) (svs_one sv) (Nat.zero_add n1) ⟨by unfold maxLen; omega, by omega⟩ ?_
  intro A3 c3 w L3 ho3 hm
  refine VR.pure rfl rfl (p_assignL rfl) ?_
  refine VR.nil ?_
  obtain ⟨gl, cur0, rfl, rfl, hsa0⟩ : ∃ gl cur, A3 = some ⟨gl, 0, none⟩ ∧ L3 = [(gl, .cells cur 74 (0, 0))] ∧ SvAt cur sv := by
    have hz := Go.Bd.OwnS.toO ho3
    rcases ho3.2 with ⟨_, h0, _⟩ | ⟨gl, cur, q1, q2, q3, q4, q5, q6⟩
    · omega
    · refine ⟨gl, cur, q1, q2, by omega, fun k s hs j hj => ?_⟩
      have hkl := (List.getElem?_eq_some_iff.1 hs).1
      have h5 : (cur.toList.take (n1 * 3))[k * 3 + j]? = (sv.flatMap Sv.cells)[k * 3 + j]? := by rw [q6]; rfl
      rw [List.getElem?_take, if_pos (by omega), Array.getElem?_toList] at h5
      rw [Nat.zero_add, h5, flat_at Sv.len hs hj]
  repeat (first | refine VC.seq ?_ | refine VC.block ?_ | refine VC.skip ?_)
  refine VC.region ?_
  refine VR.pure rfl rfl (p_assignI rfl) ?_
  refine VR.nil ?_
  repeat (first | refine VC.seq ?_ | refine VC.block ?_ | refine VC.skip ?_)
  refine VC.loop (σ := Nat × Int × List Sv × Array Value × List Cx × Option Addr × Nat × Blks) (fun s => [(1, .slice (some ⟨gl, 0, none⟩) n1 c3), (2, .slice A2 n2 c2), (3, .pointer (some ⟨b3, 0, none⟩)), (7, .slice s.2.2.2.2.2.1 s.1 s.2.2.2.2.2.2.1), (8, .int .i64 s.2.1), (9, .int .i64 s.1)])
    (fun s w => s.1 ≤ 7 ∧ ∃ G, G0.under G ∧ Mem G w (s.2.2.2.2.2.2.2 :: [(gl, .cells s.2.2.2.1 74 (0, 0))] :: (blks s.2.2.2.2.1 ++ [])) ∧ OwnS 27 1 s.2.2.2.2.2.1 s.1 s.2.2.2.2.2.2.1 (ptrs (s.2.2.2.2.1.map Cx.g)) s.2.2.2.2.2.2.2 ∧
      SvAt s.2.2.2.1 s.2.2.1 ∧ s.2.2.1.length = n1 ∧ s.2.2.2.2.1.length = s.1 ∧ (∀ j x s', s.2.2.2.2.1[j]? = some x → s.2.2.1[j]? = some s' → ChOk G.heap x.C ∧ Ini (e.ver, e.ms) j s' x.C.abs ∧ 0 ≤ s'.e ∧ 0 ≤ s'.z) ∧ BestAt e.ms s.2.2.1 s.1 s.2.1)
    (fun s => 7 - s.1) (0, -1, sv, cur0, [], none, 0, []) ⟨rfl, rfl, rfl, rfl, rfl, rfl, trivial⟩ ⟨by show 0 ≤ 7; omega, G0, Env.under_refl _, (show Mem G0 w ([(gl, .cells cur0 74 (0, 0))] :: []) from hm.none_.nil_ |> fun _ => hm.subF (by simp)).nil_, OwnS.nil _ _, hsa0, hsl, rfl, fun j x s' h => by simp at h, .inl ⟨rfl, fun j h => by dsimp only at h; omega⟩⟩ ?_
  clear hm ho3
  rintro ⟨i, best, l, cur, cs, Ap, cp, Lp⟩ AA w ⟨hi, G, hu, hm, ho, hsa, hll, hcl, hini, hbest⟩
  dsimp only at hi hm ho hsa hll hcl hini hbest ⊢
  repeat (first | refine VC.seq ?_ | refine VC.block ?_ | refine VC.skip ?_)
  refine VC.region ?_
  refine VR.pure rfl rfl (p_moveI rfl) ?_
  refine VR.pure rfl rfl (p_lt rfl rfl) ?_
  refine VR.nil ?_
  repeat (first | refine VC.seq ?_ | refine VC.block ?_ | refine VC.skip ?_)
  refine VC.condD rfl (fun hi7 => ?_) (fun hi7 => ?_)
  · have hi' : i < 7 := by omega
    have hin : i < n1 := by omega
    obtain ⟨s, hs, _⟩ := get_of (xs := l) (k := i) (by omega)
    have hs0 := hsa.at_ i s hs
    have hb3G := hu.heap _ _ hb3
    have hokG := (hok.mono hu0.heap).mono hu.heap
    repeat (first | refine VC.seq ?_ | refine VC.block ?_ | refine VC.skip ?_)
    repeat (first | refine VC.seq ?_ | refine VC.block ?_ | refine VC.skip ?_)
    refine VC.region ?_
    refine VR.pure rfl rfl (p_moveL rfl) ?_
    refine VR.pure rfl rfl (p_moveI rfl) ?_
    refine VR.pure rfl rfl (p_idxN Try.underlying69 Try.sizeOf74 rfl rfl hin) ?_
    refine VR.val rfl rfl (r_loadAgg (vs := [.int .i64 s.e, .int .i64 s.z, .int .i64 s.r]) Try.isAgg74 Try.sizeOf74 rfl (hm.at_ 1 0 rfl) rfl hs0) ?_
    refine VR.new hm rfl rfl (n_allocG Try.zeroValue74) ?_
    intro b10 w hm
    refine VR.store (cs' := #[.int .i64 s.e, .int .i64 s.z, .int .i64 s.r]) (v := .agg _) Try.sizeOf74 rfl rfl rfl rfl rfl hm 0 0 rfl (Nat.ble_eq.mp rfl) rfl ?_
    intro w hm
    refine VR.nil ?_
    repeat (first | refine VC.seq ?_ | refine VC.block ?_ | refine VC.skip ?_)
    refine VC.meet (σ := Int × Int) (fun q => [(1, .slice (some ⟨gl, 0, none⟩) n1 c3), (2, .slice A2 n2 c2), (3, .pointer (some ⟨b3, 0, none⟩)), (7, .slice Ap i cp), (8, .int .i64 best), (9, .int .i64 i), (10, .pointer (some ⟨b10, 0, none⟩))])
      (fun q w => 0 ≤ q.1 ∧ 0 ≤ q.2 ∧ Mem G w ([(b10, .cells #[.int .i64 q.1, .int .i64 q.2, .int .i64 s.r] 74 (0, 0))] :: Lp :: [(gl, .cells cur 74 (0, 0))] :: (blks cs ++ []))) ?_ ?_
    · repeat (first | refine VC.seq ?_ | refine VC.block ?_ | refine VC.skip ?_)
      refine VC.free (Kept G []) [1, 2, 4, 5, 7, 9] rfl (by kernel_rfl) (Kept.of0 hm.drew) ?_
      replace hm := hm.drew
      refine VD.pure 0 rfl (by kernel_rfl) rfl rfl (p_field (fo := 0) Try.underlying74 rfl Try.sizeOf3 rfl rfl rfl) ?_
      refine VD.pure 3 rfl (by kernel_rfl) rfl rfl (p_field (fo := 1) Try.underlying74 rfl Try.sizeOf3 rfl rfl rfl) ?_
      refine VD.turn2 1 4 (by kernel_rfl) ?_ ?_
      refine VDT.val rfl rfl rfl (r_load (v := .int _ _) Try.isAgg3 rfl (hm.at_ 0 0 rfl) rfl) (Kept.of0 hm) ?_
      refine VD.turn2 2 4 (by kernel_rfl) ?_ ?_
      refine VDT.call rfl rfl rfl (r_call2 Try.call14 rfl rfl) (pick_c (n := 4) (by decide)) ?_
      rintro _ _ ⟨⟨p, hp, rfl⟩, rfl⟩
      refine ⟨Kept.of0 hm, ?_⟩
      refine VD.turn1 4 (by kernel_rfl) ?_
      refine VDT.val rfl rfl rfl (r_load (v := .int _ _) Try.isAgg3 rfl (hm.at_ 0 0 rfl) rfl) (Kept.of0 hm) ?_
      refine VD.pure 6 rfl (by kernel_rfl) rfl rfl (p_field (fo := 0) Try.underlying74 rfl Try.sizeOf3 rfl rfl rfl) ?_
      refine VD.turn1 5 (by kernel_rfl) ?_
      refine VDT.call rfl rfl rfl (r_call2 Try.call14 rfl rfl) (pick_c (n := 6) (by decide)) ?_
      rintro _ _ ⟨⟨q, hq, rfl⟩, rfl⟩
      refine ⟨Kept.of0 hm, ?_⟩
      refine VD.turn1 7 (by kernel_rfl) ?_
      refine VDT.store (cs' := #[.int .i64 p, .int .i64 s.z, .int .i64 s.r]) (v := .int _ _) Try.sizeOf3 rfl rfl rfl rfl rfl rfl hm 0 0 rfl (Nat.ble_eq.mp rfl) rfl (fun w' hm' => Kept.of0 hm') ?_
      intro w hm
      refine VD.pure 8 rfl (by kernel_rfl) rfl rfl (p_field (fo := 1) Try.underlying74 rfl Try.sizeOf3 rfl rfl rfl) ?_
      refine VD.turn1 9 (by kernel_rfl) ?_
      refine VDT.store (cs' := #[.int .i64 p, .int .i64 q, .int .i64 s.r]) (v := .int _ _) Try.sizeOf3 rfl rfl rfl rfl rfl rfl hm 0 0 rfl (Nat.ble_eq.mp rfl) rfl (fun w' hm' => Kept.of0 hm') ?_
      intro w hm
      refine VD.nil (by kernel_rfl) rfl ?_
      rotate_left 1
      refine VDT.val rfl rfl rfl (r_load (v := .int _ _) Try.isAgg3 rfl (hm.at_ 0 0 rfl) rfl) (Kept.of0 hm) ?_
      refine VD.turn1 2 (by kernel_rfl) ?_
      refine VDT.call rfl rfl rfl (r_call2 Try.call14 rfl rfl) (pick_c (n := 4) (by decide)) ?_
      rintro _ _ ⟨⟨p, hp, rfl⟩, rfl⟩
      refine ⟨Kept.of0 hm, ?_⟩
      refine VD.pure 6 rfl (by kernel_rfl) rfl rfl (p_field (fo := 0) Try.underlying74 rfl Try.sizeOf3 rfl rfl rfl) ?_
      refine VD.turn1 5 (by kernel_rfl) ?_
      refine VDT.call rfl rfl rfl (r_call2 Try.call14 rfl rfl) (pick_c (n := 6) (by decide)) ?_
      rintro _ _ ⟨⟨q, hq, rfl⟩, rfl⟩
      refine ⟨Kept.of0 hm, ?_⟩
      refine VD.turn1 7 (by kernel_rfl) ?_
      refine VDT.store (cs' := #[.int .i64 p, .int .i64 s.z, .int .i64 s.r]) (v := .int _ _) Try.sizeOf3 rfl rfl rfl rfl rfl rfl hm 0 0 rfl (Nat.ble_eq.mp rfl) rfl (fun w' hm' => Kept.of0 hm') ?_
      intro w hm
      refine VD.pure 8 rfl (by kernel_rfl) rfl rfl (p_field (fo := 1) Try.underlying74 rfl Try.sizeOf3 rfl rfl rfl) ?_
      refine VD.turn1 9 (by kernel_rfl) ?_
      refine VDT.store (cs' := #[.int .i64 p, .int .i64 q, .int .i64 s.r]) (v := .int _ _) Try.sizeOf3 rfl rfl rfl rfl rfl rfl hm 0 0 rfl (Nat.ble_eq.mp rfl) rfl (fun w' hm' => Kept.of0 hm') ?_
      intro w hm
      refine VD.nil (by kernel_rfl) rfl ?_
      rotate_left 1
      refine VDT.val rfl rfl rfl (r_load (v := .int _ _) Try.isAgg3 rfl (hm.at_ 0 0 rfl) rfl) (Kept.of0 hm) ?_
      refine VD.turn1 1 (by kernel_rfl) ?_
      refine VDT.val rfl rfl rfl (r_load (v := .int _ _) Try.isAgg3 rfl (hm.at_ 0 0 rfl) rfl) (Kept.of0 hm) ?_
      refine VD.turn1 2 (by kernel_rfl) ?_
      refine VDT.call rfl rfl rfl (r_call2 Try.call14 rfl rfl) (pick_c (n := 4) (by decide)) ?_
      rintro _ _ ⟨⟨p, hp, rfl⟩, rfl⟩
      refine ⟨Kept.of0 hm, ?_⟩
      refine VD.pure 6 rfl (by kernel_rfl) rfl rfl (p_field (fo := 0) Try.underlying74 rfl Try.sizeOf3 rfl rfl rfl) ?_
      refine VD.turn1 5 (by kernel_rfl) ?_
      refine VDT.call rfl rfl rfl (r_call2 Try.call14 rfl rfl) (pick_c (n := 6) (by decide)) ?_
      rintro _ _ ⟨⟨q, hq, rfl⟩, rfl⟩
      refine ⟨Kept.of0 hm, ?_⟩
      refine VD.turn1 7 (by kernel_rfl) ?_
      refine VDT.store (cs' := #[.int .i64 p, .int .i64 s.z, .int .i64 s.r]) (v := .int _ _) Try.sizeOf3 rfl rfl rfl rfl rfl rfl hm 0 0 rfl (Nat.ble_eq.mp rfl) rfl (fun w' hm' => Kept.of0 hm') ?_
      intro w hm
      refine VD.pure 8 rfl (by kernel_rfl) rfl rfl (p_field (fo := 1) Try.underlying74 rfl Try.sizeOf3 rfl rfl rfl) ?_
      refine VD.turn1 9 (by kernel_rfl) ?_
      refine VDT.store (cs' := #[.int .i64 p, .int .i64 q, .int .i64 s.r]) (v := .int _ _) Try.sizeOf3 rfl rfl rfl rfl rfl rfl hm 0 0 rfl (Nat.ble_eq.mp rfl) rfl (fun w' hm' => Kept.of0 hm') ?_
      intro w hm
      refine VD.nil (by kernel_rfl) rfl ?_
      rotate_left 1
      all_goals exact ⟨((p : Int), (q : Int)), ⟨rfl, rfl, rfl, rfl, rfl, rfl, rfl, trivial⟩, by show 0 ≤ (p : Int); omega, by show 0 ≤ (q : Int); omega, hm⟩
    clear hm
    rintro ⟨ep, zx⟩ A5 w ⟨hep, hzx, hm⟩
    dsimp only at hep hzx hm ⊢
    have hsize := hsa.size
    repeat (first | refine VC.seq ?_ | refine VC.block ?_ | refine VC.skip ?_)
    refine VC.region ?_
    refine VR.pure rfl rfl (p_moveL rfl) ?_
    refine VR.pure rfl rfl (p_moveI rfl) ?_
    refine VR.val rfl rfl (r_loadAgg (vs := [.int .i64 ep, .int .i64 zx, .int .i64 s.r]) Try.isAgg74 Try.sizeOf74 rfl (hm.at_ 0 0 rfl) rfl (agg_at rfl)) ?_
    refine VR.pure rfl rfl (p_idxN Try.underlying69 Try.sizeOf74 rfl rfl hin) ?_
    refine VR.store (cs' := (lay cur (0 + i * 3) [.int .i64 ep, .int .i64 zx, .int .i64 s.r])) (v := .agg _) Try.sizeOf74 rfl rfl rfl rfl rfl hm 2 0 rfl (by omega) rfl ?_
    intro w hm
    refine VR.nil ?_
    have hsa2 : SvAt (lay cur (0 + i * 3) [.int .i64 ep, .int .i64 zx, .int .i64 s.r]) (l.set i ⟨ep, zx, s.r⟩) := hsa.set (k := i) (by omega) ⟨ep, zx, s.r⟩
    replace hm : Mem G w ([(b10, .cells #[.int .i64 ep, .int .i64 zx, .int .i64 s.r] 74 (0, 0))] :: Lp :: [(gl, .cells (lay cur (0 + i * 3) [.int .i64 ep, .int .i64 zx, .int .i64 s.r]) 74 (0, 0))] :: (blks cs ++ [])) := hm
    generalize lay cur (0 + i * 3) [.int .i64 ep, .int .i64 zx, .int .i64 s.r] = cur2 at hm hsa2
    have hsi : (l.set i ⟨ep, zx, s.r⟩)[i]? = some ⟨ep, zx, s.r⟩ := by rw [List.getElem?_set, if_pos rfl, if_pos (by omega)]
    have hsj : ∀ j, j ≠ i → (l.set i ⟨ep, zx, s.r⟩)[j]? = l[j]? := fun j hj => by rw [List.getElem?_set, if_neg (by omega)]
    have hll2 : (l.set i ⟨ep, zx, s.r⟩).length = n1 := by rw [List.length_set]; exact hll
    generalize l.set i ⟨ep, zx, s.r⟩ = l2 at hsa2 hsi hsj hll2
    repeat (first | refine VC.seq ?_ | refine VC.block ?_ | refine VC.skip ?_)
    refine VC.region ?_
    refine VR.pure rfl rfl (p_moveI rfl) ?_
    refine VR.pure rfl rfl (p_add64E (r := ((i + 1 : Nat) : Int)) rfl rfl (by omega) (by omega)) ?_
    refine VR.pure rfl rfl (p_field (fo := 0) Try.underlying74 rfl Try.sizeOf3 rfl rfl rfl) ?_
    refine VR.val rfl rfl (r_load (v := .int _ _) Try.isAgg3 rfl (hm.at_ 0 0 rfl) rfl) ?_
    refine VR.pure rfl rfl (p_field (fo := 1) Try.underlying74 rfl Try.sizeOf3 rfl rfl rfl) ?_
    refine VR.val rfl rfl (r_load (v := .int _ _) Try.isAgg3 rfl (hm.at_ 0 0 rfl) rfl) ?_
    refine VR.val rfl rfl (r_loadAgg (vs := [.int .i64 e.ver, .slice e.A e.n e.c]) Try.isAgg42 Try.sizeOf42 rfl (hm.fix _ _ hb3G) rfl (agg_at rfl)) ?_
    refine VR.new hm rfl rfl (n_buildSlice (vs := [.agg _]) Try.underlying23 inf42 rfl rfl rfl rfl rfl rfl) ?_
    intro b67 w hm
    obtain ⟨G1, hu1, hm, hb67⟩ := hm.freeze
    refine VR.call rfl rfl (r_call4 Try.call9 rfl rfl rfl rfl) (new_c (id := (i + 1 : Nat)) hm (by omega) (by decide) (one_row (hb67 _ (.head _)) (hokG.mono hu1.heap)) (one_small hsm)) ?_
    rintro _ w ⟨g, m, C, G2, rfl, hu2, hC, hab, hm⟩
    refine VR.pure rfl rfl (p_assignP rfl) ?_
    refine VR.nil ?_
    have hini2 : Ini (e.ver, e.ms) i ⟨ep, zx, s.r⟩ C.abs := by rw [hab]; exact ini_new _ _ _
    have hu02 := (hu.trans hu1).trans hu2
    repeat (first | refine VC.seq ?_ | refine VC.block ?_ | refine VC.skip ?_)
    refine VC.region ?_
    refine VR.pure rfl rfl (p_assignI rfl) ?_
    refine VR.nil ?_
    repeat (first | refine VC.seq ?_ | refine VC.block ?_ | refine VC.skip ?_)
    refine VC.loop (σ := Nat × Nat × Ch) (fun q => [(1, .slice (some ⟨gl, 0, none⟩) n1 c3), (2, .slice A2 n2 c2), (3, .pointer (some ⟨b3, 0, none⟩)), (7, .slice Ap i cp), (8, .int .i64 best), (9, .int .i64 i), (10, .pointer (some ⟨b10, 0, none⟩)), (11, .pointer (some ⟨g, 0, none⟩)), (12, .int .i64 q.1)])
      (fun q w => q.1 ≤ 5 ∧ ∃ G', G2.under G' ∧ Mem G' w ([(g, q.2.2.obj q.2.1)] :: [(q.2.1, q.2.2.map)] :: [(b10, .cells #[.int .i64 ep, .int .i64 zx, .int .i64 s.r] 74 (0, 0))] :: Lp :: [(gl, .cells cur2 74 (0, 0))] :: (blks cs ++ [])) ∧ ChOk G'.heap q.2.2 ∧ Ini (e.ver, e.ms) i ⟨ep, zx, s.r⟩ q.2.2.abs)
      (fun q => 5 - q.1) (0, m, C) ⟨rfl, rfl, rfl, rfl, rfl, rfl, rfl, rfl, rfl, trivial⟩ ⟨by show 0 ≤ 5; omega, G2, Env.under_refl _, hm, hC, hini2⟩ ?_
    clear hm
    rintro ⟨k, m', C'⟩ A6 w ⟨hk, G3, hu3, hm, hC', hin'⟩
    dsimp only at hk hm hC' hin' ⊢
    have hu03 := hu02.trans hu3
    have hb3H := hu03.heap _ _ hb3
    repeat (first | refine VC.seq ?_ | refine VC.block ?_ | refine VC.skip ?_)
    refine VC.region ?_
    refine VR.pure rfl rfl (p_moveI rfl) ?_
    refine VR.pure rfl rfl (p_field (fo := 2) Try.underlying74 rfl Try.sizeOf3 rfl rfl rfl) ?_
    refine VR.val rfl rfl (r_load (v := .int _ _) Try.isAgg3 rfl (hm.at_ 2 0 rfl) rfl) ?_
    refine VR.call rfl rfl (r_call2 Try.call14 rfl rfl) (pick_c (n := 5) (by decide)) ?_
    rintro _ _ ⟨⟨p, hp, rfl⟩, rfl⟩
    refine VR.pure rfl rfl (p_lt rfl rfl) ?_
    refine VR.nil ?_
    repeat (first | refine VC.seq ?_ | refine VC.block ?_ | refine VC.skip ?_)
    refine VC.condD rfl (fun hkp => ?_) (fun hkp => ?_)
    · repeat (first | refine VC.seq ?_ | refine VC.block ?_ | refine VC.skip ?_)
      refine VC.region ?_
      refine VR.pure rfl rfl (p_moveP rfl) ?_
      refine VR.pure rfl rfl (p_field (fo := 0) Try.underlying74 rfl Try.sizeOf3 rfl rfl rfl) ?_
      refine VR.val rfl rfl (r_load (v := .int _ _) Try.isAgg3 rfl (hm.at_ 2 0 rfl) rfl) ?_
      refine VR.pure rfl rfl (p_field (fo := 1) Try.underlying74 rfl Try.sizeOf3 rfl rfl rfl) ?_
      refine VR.val rfl rfl (r_load (v := .int _ _) Try.isAgg3 rfl (hm.at_ 2 0 rfl) rfl) ?_
      refine VR.val rfl rfl (r_loadAgg (vs := [.int .i64 e.ver, .slice e.A e.n e.c]) Try.isAgg42 Try.sizeOf42 rfl (hm.fix _ _ hb3H) rfl (agg_at rfl)) ?_
      refine VR.new hm rfl rfl (n_buildSlice (vs := [.agg _]) Try.underlying23 inf42 rfl rfl rfl rfl rfl rfl) ?_
      intro b82 w hm
      obtain ⟨G4, hu4, hm, hb82⟩ := hm.freeze
      refine VR.call rfl rfl (r_call4 Try.call19 rfl rfl rfl rfl) (begin_c hm (hC'.mono hu4.heap) (by decide) (one_row (hb82 _ (.head _)) (((hok.mono hu0.heap).mono hu03.heap).mono hu4.heap)) (one_small hsm)) ?_
      rintro _ w ⟨m5, C5, G5, hu5, hC5, hab5, hm⟩
      refine VR.nil ?_
      repeat (first | refine VC.seq ?_ | refine VC.block ?_ | refine VC.skip ?_)
      refine VC.region ?_
      refine VR.pure rfl rfl (p_moveI rfl) ?_
      refine VR.pure rfl rfl (p_add64 rfl rfl (by omega)) ?_
      refine VR.pure rfl rfl (p_assignI rfl) ?_
      refine VR.nil ?_
      exact ⟨(k + 1, m5, C5), ⟨rfl, rfl, rfl, rfl, rfl, rfl, rfl, rfl, rfl, trivial⟩, ⟨by show k + 1 ≤ 5; omega, G5, (hu3.trans hu4).trans hu5, hm, hC5, by show Ini _ _ _ C5.abs; rw [hab5]; exact hin'.begin⟩, by show 5 - (k + 1) < 5 - k; omega⟩
    repeat (first | refine VC.seq ?_ | refine VC.block ?_ | refine VC.skip ?_)
    refine VC.exit ?_
    repeat (first | refine VC.seq ?_ | refine VC.block ?_ | refine VC.skip ?_)
    refine VC.region ?_
    refine VR.pure rfl rfl (p_moveL rfl) ?_
    refine VR.pure rfl rfl (p_moveP rfl) ?_
    refine VR.new hm rfl rfl (n_buildSlice1 (vs := [.pointer _]) Try.underlying72 inf27 rfl rfl rfl rfl rfl rfl rfl) ?_
    intro b86 w hm
    replace hm := hm.pull 4 rfl
    refine VR.append (s := 1) (bytes := 8) Try.underlying72 inf27 rfl rfl rfl rfl rfl rfl rfl rfl rfl hm ho (Row.lit (cs := [.pointer (some ⟨g, 0, none⟩)]) (hm.at_ 1 0 rfl)) (ptrs_one [g]) rfl ⟨by unfold maxLen; omega, by omega⟩ ?_
    intro Ap3 cp3 w Lp3 hop hm
    refine VR.pure rfl rfl (p_assignL rfl) ?_
    refine VR.nil ?_
    replace hm := hm.pop2
    have heH := (he.mono hu0.heap).mono hu03.heap
    have hgs : ptrs ((cs ++ [Cx.mk g m' C']).map Cx.g) = ptrs (cs.map Cx.g) ++ [.pointer (some ⟨g, 0, none⟩)] := by
      unfold ptrs
      rw [List.map_append, List.map_append]
      rfl
    have hall : ∀ j x s', (cs ++ [Cx.mk g m' C'])[j]? = some x → l2[j]? = some s' → ChOk G3.heap x.C ∧ Ini (e.ver, e.ms) j s' x.C.abs ∧ 0 ≤ s'.e ∧ 0 ≤ s'.z := fun j x s' hx hsx => by
      by_cases hj : j < cs.length
      · rw [List.getElem?_append_left hj] at hx
        rw [hsj j (by omega)] at hsx
        obtain ⟨q1, q2⟩ := hini j x s' hx hsx
        exact ⟨((q1.mono hu1.heap).mono hu2.heap).mono hu3.heap, q2⟩
      · rw [List.getElem?_append_right (by omega)] at hx
        have hji : j = i := by
          have := (List.getElem?_eq_some_iff.1 hx).1
          simp at this
          omega
        subst hji
        rw [hcl, Nat.sub_self] at hx
        obtain rfl := Option.some.inj hx
        rw [hsi] at hsx
        obtain rfl := Option.some.inj hsx
        exact ⟨hC', hin', hep, hzx⟩
    repeat (first | refine VC.seq ?_ | refine VC.block ?_ | refine VC.skip ?_)
    rcases hbest with ⟨rfl, hnov⟩ | ⟨bi, sb, rfl, hbi, hsb, hvb, hbl⟩
    · repeat (first | refine VC.seq ?_ | refine VC.block ?_ | refine VC.skip ?_)
      refine VC.loud (Kept G3 (Lp3 :: [(g, C'.obj m')] :: [(m', C'.map)] :: [(b10, .cells #[.int .i64 ep, .int .i64 zx, .int .i64 s.r] 74 (0, 0))] :: [(gl, .cells cur2 74 (0, 0))] :: (blks cs ++ []))) [3] rfl (by kernel_rfl) (Kept.here0 hm.drew) ?_
      replace hm := hm.drew
      refine VL.read rfl rfl rfl (fun w' hw' => r_loadAgg (vs := [.int .i64 e.ver, .slice e.A e.n e.c]) Try.isAgg42 Try.sizeOf42 rfl (hw'.fix _ _ hb3H) rfl (agg_at rfl)) ?_
      refine VL.pure rfl rfl rfl (p_moveI rfl) ?_
      refine VL.pure rfl rfl rfl (p_add64E (r := ((i + 1 : Nat) : Int)) rfl rfl (by omega) (by omega)) ?_
      refine VL.call rfl rfl rfl (r_call2 Try.call26 rfl rfl) (voter_c (e := e) (id := (i + 1 : Nat)) hm hen heH) ?_
      rintro _ w ⟨rfl, hm⟩
      refine ⟨Kept.here0 hm, ?_⟩
      refine VL.pure rfl rfl rfl (p_moveB rfl) ?_
      refine VL.splitB 92 rfl (fun hv => ?_) (fun hv => ?_)
      refine VL.pureG rfl rfl rfl (p_moveI rfl) ?_
      refine VL.pureG rfl rfl rfl (p_lt rfl rfl) ?_
      refine VL.pureG rfl rfl rfl (p_moveB rfl) ?_
      refine VL.knownT 95 rfl rfl ?_
      refine VL.pass rfl rfl ?_
      refine VL.pass rfl rfl ?_
      refine VL.pass rfl rfl ?_
      refine VL.pass rfl rfl ?_
      refine VL.pass rfl rfl ?_
      refine VL.pass rfl rfl ?_
      refine VL.pass rfl rfl ?_
      refine VL.pass rfl rfl ?_
      refine VL.pureG rfl rfl rfl (p_pickT rfl rfl) ?_
      refine VL.pureG rfl rfl rfl (p_moveB rfl) ?_
      refine VL.pass rfl rfl ?_
      refine VL.pass rfl rfl ?_
      refine VL.pass rfl rfl ?_
      refine VL.pass rfl rfl ?_
      refine VL.pass rfl rfl ?_
      refine VL.pass rfl rfl ?_
      refine VL.pass rfl rfl ?_
      refine VL.pass rfl rfl ?_
      refine VL.pass rfl rfl ?_
      refine VL.pass rfl rfl ?_
      refine VL.pass rfl rfl ?_
      refine VL.pass rfl rfl ?_
      refine VL.pass rfl rfl ?_
      refine VL.pass rfl rfl ?_
      refine VL.pass rfl rfl ?_
      refine VL.pass rfl rfl ?_
      refine VL.pass rfl rfl ?_
      refine VL.pass rfl rfl ?_
      refine VL.pureG rfl rfl rfl (p_pickT rfl rfl) ?_
      refine VL.pure rfl rfl rfl (p_pickT rfl rfl) ?_
      refine VL.nil ?_
      rotate_left 1
      refine VL.pass rfl rfl ?_
      refine VL.pass rfl rfl ?_
      refine VL.pass rfl rfl ?_
      refine VL.pass rfl rfl ?_
      refine VL.pass rfl rfl ?_
      refine VL.pass rfl rfl ?_
      refine VL.pass rfl rfl ?_
      refine VL.pass rfl rfl ?_
      refine VL.pass rfl rfl ?_
      refine VL.pass rfl rfl ?_
      refine VL.pass rfl rfl ?_
      refine VL.pass rfl rfl ?_
      refine VL.pass rfl rfl ?_
      refine VL.pass rfl rfl ?_
      refine VL.pass rfl rfl ?_
      refine VL.pass rfl rfl ?_
      refine VL.pass rfl rfl ?_
      refine VL.pass rfl rfl ?_
      refine VL.pass rfl rfl ?_
      refine VL.pass rfl rfl ?_
      refine VL.pass rfl rfl ?_
      refine VL.pass rfl rfl ?_
      refine VL.pass rfl rfl ?_
      refine VL.pass rfl rfl ?_
      refine VL.pass rfl rfl ?_
      refine VL.pass rfl rfl ?_
      refine VL.pass rfl rfl ?_
      refine VL.pass rfl rfl ?_
      refine VL.pass rfl rfl ?_
      refine VL.pass rfl rfl ?_
      refine VL.pass rfl rfl ?_
      refine VL.pass rfl rfl ?_
      refine VL.pure rfl rfl rfl (p_pickF rfl rfl) ?_
      refine VL.nil ?_
      rotate_left 1
      · repeat (first | refine VC.seq ?_ | refine VC.block ?_ | refine VC.skip ?_)
        refine VC.condT rfl rfl ?_
        repeat (first | refine VC.seq ?_ | refine VC.block ?_ | refine VC.skip ?_)
        refine VC.region ?_
        refine VR.pure rfl rfl (p_moveI rfl) ?_
        refine VR.pure rfl rfl (p_assignI rfl) ?_
        refine VR.nil ?_
        repeat (first | refine VC.seq ?_ | refine VC.block ?_ | refine VC.skip ?_)
        refine VC.region ?_
        refine VR.pure rfl rfl (p_moveI rfl) ?_
        refine VR.pure rfl rfl (p_add64 rfl rfl (by omega)) ?_
        refine VR.pure rfl rfl (p_assignI rfl) ?_
        refine VR.nil ?_
        refine ⟨(i + 1, ((i:Int)), l2, cur2, cs ++ [Cx.mk g m' C'], Ap3, cp3, Lp3), ⟨rfl, rfl, rfl, rfl, rfl, rfl, trivial⟩, ⟨by show i + 1 ≤ 7; omega, G3, hu03, ?_, ?_, hsa2, hll2, by rw [List.length_append, hcl]; rfl, hall, ?_⟩, by show 7 - (i + 1) < 7 - i; omega⟩
        · have h1 := hm.pull 3 rfl
          have h2 : Mem G3 w ([(g, C'.obj m')] :: [(m', C'.map)] :: (blks cs ++ (Lp3 :: [(gl, .cells cur2 74 (0, 0))] :: []))) := h1.pop.permF (flat_perm Lp3 _ _ _ _)
          have h3 := blks_snoc (y := ⟨g, m', C'⟩) h2
          exact h3.permF (flat_perm2 Lp3 _ _)
        · rw [hgs]
          exact hop
        refine .inr ⟨i, ⟨ep, zx, s.r⟩, rfl, by show i < i + 1; omega, hsi, hv, fun j s' hj hs' hvj => ?_⟩
        by_cases hji : j = i
        · subst hji
          rw [hsi] at hs'
          obtain rfl := Option.some.inj hs'
          exact leV_refl _
        · have := hnov j (by dsimp only at hj; omega)
          rw [this] at hvj
          cases hvj
      · repeat (first | refine VC.seq ?_ | refine VC.block ?_ | refine VC.skip ?_)
        refine VC.condF rfl rfl ?_
        repeat (first | refine VC.seq ?_ | refine VC.block ?_ | refine VC.skip ?_)
        repeat (first | refine VC.seq ?_ | refine VC.block ?_ | refine VC.skip ?_)
        refine VC.region ?_
        refine VR.pure rfl rfl (p_moveI rfl) ?_
        refine VR.pure rfl rfl (p_add64 rfl rfl (by omega)) ?_
        refine VR.pure rfl rfl (p_assignI rfl) ?_
        refine VR.nil ?_
        refine ⟨(i + 1, (-1), l2, cur2, cs ++ [Cx.mk g m' C'], Ap3, cp3, Lp3), ⟨rfl, rfl, rfl, rfl, rfl, rfl, trivial⟩, ⟨by show i + 1 ≤ 7; omega, G3, hu03, ?_, ?_, hsa2, hll2, by rw [List.length_append, hcl]; rfl, hall, ?_⟩, by show 7 - (i + 1) < 7 - i; omega⟩
        · have h1 := hm.pull 3 rfl
          have h2 : Mem G3 w ([(g, C'.obj m')] :: [(m', C'.map)] :: (blks cs ++ (Lp3 :: [(gl, .cells cur2 74 (0, 0))] :: []))) := h1.pop.permF (flat_perm Lp3 _ _ _ _)
          have h3 := blks_snoc (y := ⟨g, m', C'⟩) h2
          exact h3.permF (flat_perm2 Lp3 _ _)
        · rw [hgs]
          exact hop
        refine .inl ⟨rfl, fun j hj => ?_⟩
        by_cases hji : j = i
        · subst hji
          exact hv
        · exact hnov j (by dsimp only at hj; omega)
    · have hbn : bi < n1 := by omega
      have hsb2 : l2[bi]? = some sb := by rw [hsj bi (by omega)]; exact hsb
      have hb0 : cur2[0 + bi * 3 + 0]? = some (.int .i64 sb.e) := hsa2.at_ bi sb hsb2 0 (by decide)
      have hb1 : cur2[0 + bi * 3 + 1]? = some (.int .i64 sb.z) := hsa2.at_ bi sb hsb2 1 (by decide)
      repeat (first | refine VC.seq ?_ | refine VC.block ?_ | refine VC.skip ?_)
      refine VC.loud (Kept G3 (Lp3 :: [(g, C'.obj m')] :: [(m', C'.map)] :: [(b10, .cells #[.int .i64 ep, .int .i64 zx, .int .i64 s.r] 74 (0, 0))] :: [(gl, .cells cur2 74 (0, 0))] :: (blks cs ++ []))) [3] rfl (by kernel_rfl) (Kept.here0 hm.drew) ?_
      replace hm := hm.drew
      refine VL.read rfl rfl rfl (fun w' hw' => r_loadAgg (vs := [.int .i64 e.ver, .slice e.A e.n e.c]) Try.isAgg42 Try.sizeOf42 rfl (hw'.fix _ _ hb3H) rfl (agg_at rfl)) ?_
      refine VL.pure rfl rfl rfl (p_moveI rfl) ?_
      refine VL.pure rfl rfl rfl (p_add64E (r := ((i + 1 : Nat) : Int)) rfl rfl (by omega) (by omega)) ?_
      refine VL.call rfl rfl rfl (r_call2 Try.call26 rfl rfl) (voter_c (e := e) (id := (i + 1 : Nat)) hm hen heH) ?_
      rintro _ w ⟨rfl, hm⟩
      refine ⟨Kept.here0 hm, ?_⟩
      refine VL.pure rfl rfl rfl (p_moveB rfl) ?_
      refine VL.splitB 92 rfl (fun hv => ?_) (fun hv => ?_)
      refine VL.pureG rfl rfl rfl (p_moveI rfl) ?_
      refine VL.pureG rfl rfl rfl (p_lt rfl rfl) ?_
      refine VL.pureG rfl rfl rfl (p_moveB rfl) ?_
      refine VL.knownF 95 rfl (decide_eq_false (by omega)) ?_
      refine VL.pureG rfl rfl rfl (p_field (fo := 0) Try.underlying74 rfl Try.sizeOf3 rfl rfl rfl) ?_
      refine VL.readG rfl rfl rfl (fun w' hw' => r_load (v := .int _ _) Try.isAgg3 rfl (hw'.at_ 3 0 rfl) rfl) ?_
      refine VL.pureG rfl rfl rfl (p_moveL rfl) ?_
      refine VL.pureG rfl rfl rfl (p_moveI rfl) ?_
      refine VL.pureG rfl rfl rfl (p_idxN Try.underlying69 Try.sizeOf74 rfl rfl hbn) ?_
      refine VL.pureG rfl rfl rfl (p_field (fo := 0) Try.underlying74 rfl Try.sizeOf3 rfl rfl rfl) ?_
      refine VL.readG rfl rfl rfl (fun w' hw' => r_load (v := .int _ _) Try.isAgg3 rfl (hw'.at_ 4 0 rfl) hb0) ?_
      refine VL.pureG rfl rfl rfl (p_gt rfl rfl) ?_
      refine VL.pureG rfl rfl rfl (p_pickF rfl rfl) ?_
      refine VL.pureG rfl rfl rfl (p_moveB rfl) ?_
      refine VL.splitD 105 rfl (fun q17 => ?_) (fun q17 => ?_)
      refine VL.pass rfl rfl ?_
      refine VL.pass rfl rfl ?_
      refine VL.pass rfl rfl ?_
      refine VL.pass rfl rfl ?_
      refine VL.pass rfl rfl ?_
      refine VL.pass rfl rfl ?_
      refine VL.pass rfl rfl ?_
      refine VL.pass rfl rfl ?_
      refine VL.pass rfl rfl ?_
      refine VL.pass rfl rfl ?_
      refine VL.pass rfl rfl ?_
      refine VL.pass rfl rfl ?_
      refine VL.pass rfl rfl ?_
      refine VL.pass rfl rfl ?_
      refine VL.pass rfl rfl ?_
      refine VL.pass rfl rfl ?_
      refine VL.pass rfl rfl ?_
      refine VL.pass rfl rfl ?_
      refine VL.pureG rfl rfl rfl (p_pickT rfl rfl) ?_
      refine VL.pure rfl rfl rfl (p_pickT rfl rfl) ?_
      refine VL.nil ?_
      rotate_left 1
      refine VL.pureG rfl rfl rfl (p_field (fo := 0) Try.underlying74 rfl Try.sizeOf3 rfl rfl rfl) ?_
      refine VL.readG rfl rfl rfl (fun w' hw' => r_load (v := .int _ _) Try.isAgg3 rfl (hw'.at_ 3 0 rfl) rfl) ?_
      refine VL.pureG rfl rfl rfl (p_moveL rfl) ?_
      refine VL.pureG rfl rfl rfl (p_moveI rfl) ?_
      refine VL.pureG rfl rfl rfl (p_idxN Try.underlying69 Try.sizeOf74 rfl rfl hbn) ?_
      refine VL.pureG rfl rfl rfl (p_field (fo := 0) Try.underlying74 rfl Try.sizeOf3 rfl rfl rfl) ?_
      refine VL.readG rfl rfl rfl (fun w' hw' => r_load (v := .int _ _) Try.isAgg3 rfl (hw'.at_ 4 0 rfl) hb0) ?_
      refine VL.pureG rfl rfl rfl (p_eq rfl rfl) ?_
      refine VL.pureG rfl rfl rfl (p_moveB rfl) ?_
      refine VL.splitD 114 rfl (fun q26 => ?_) (fun q26 => ?_)
      refine VL.pureG rfl rfl rfl (p_field (fo := 1) Try.underlying74 rfl Try.sizeOf3 rfl rfl rfl) ?_
      refine VL.readG rfl rfl rfl (fun w' hw' => r_load (v := .int _ _) Try.isAgg3 rfl (hw'.at_ 3 0 rfl) rfl) ?_
      refine VL.pureG rfl rfl rfl (p_moveL rfl) ?_
      refine VL.pureG rfl rfl rfl (p_moveI rfl) ?_
      refine VL.pureG rfl rfl rfl (p_idxN Try.underlying69 Try.sizeOf74 rfl rfl hbn) ?_
      refine VL.pureG rfl rfl rfl (p_field (fo := 1) Try.underlying74 rfl Try.sizeOf3 rfl rfl rfl) ?_
      refine VL.readG rfl rfl rfl (fun w' hw' => r_load (v := .int _ _) Try.isAgg3 rfl (hw'.at_ 4 0 rfl) hb1) ?_
      refine VL.pureG rfl rfl rfl (p_ge rfl rfl) ?_
      refine VL.pureG rfl rfl rfl (p_pickT rfl rfl) ?_
      refine VL.pureG rfl rfl rfl (p_pickF rfl rfl) ?_
      refine VL.pure rfl rfl rfl (p_pickT rfl rfl) ?_
      refine VL.nil ?_
      rotate_left 1
      refine VL.pass rfl rfl ?_
      refine VL.pass rfl rfl ?_
      refine VL.pass rfl rfl ?_
      refine VL.pass rfl rfl ?_
      refine VL.pass rfl rfl ?_
      refine VL.pass rfl rfl ?_
      refine VL.pass rfl rfl ?_
      refine VL.pass rfl rfl ?_
      refine VL.pureG rfl rfl rfl (p_pickF rfl rfl) ?_
      refine VL.pureG rfl rfl rfl (p_pickF rfl rfl) ?_
      refine VL.pure rfl rfl rfl (p_pickT rfl rfl) ?_
      refine VL.nil ?_
      rotate_left 1
      refine VL.pass rfl rfl ?_
      refine VL.pass rfl rfl ?_
      refine VL.pass rfl rfl ?_
      refine VL.pass rfl rfl ?_
      refine VL.pass rfl rfl ?_
      refine VL.pass rfl rfl ?_
      refine VL.pass rfl rfl ?_
      refine VL.pass rfl rfl ?_
      refine VL.pass rfl rfl ?_
      refine VL.pass rfl rfl ?_
      refine VL.pass rfl rfl ?_
      refine VL.pass rfl rfl ?_
      refine VL.pass rfl rfl ?_
      refine VL.pass rfl rfl ?_
      refine VL.pass rfl rfl ?_
      refine VL.pass rfl rfl ?_
      refine VL.pass rfl rfl ?_
      refine VL.pass rfl rfl ?_
      refine VL.pass rfl rfl ?_
      refine VL.pass rfl rfl ?_
      refine VL.pass rfl rfl ?_
      refine VL.pass rfl rfl ?_
      refine VL.pass rfl rfl ?_
      refine VL.pass rfl rfl ?_
      refine VL.pass rfl rfl ?_
      refine VL.pass rfl rfl ?_
      refine VL.pass rfl rfl ?_
      refine VL.pass rfl rfl ?_
      refine VL.pass rfl rfl ?_
      refine VL.pass rfl rfl ?_
      refine VL.pass rfl rfl ?_
      refine VL.pass rfl rfl ?_
      refine VL.pure rfl rfl rfl (p_pickF rfl rfl) ?_
      refine VL.nil ?_
      rotate_left 1
      · repeat (first | refine VC.seq ?_ | refine VC.block ?_ | refine VC.skip ?_)
        refine VC.condT rfl rfl ?_
        repeat (first | refine VC.seq ?_ | refine VC.block ?_ | refine VC.skip ?_)
        refine VC.region ?_
        refine VR.pure rfl rfl (p_moveI rfl) ?_
        refine VR.pure rfl rfl (p_assignI rfl) ?_
        refine VR.nil ?_
        repeat (first | refine VC.seq ?_ | refine VC.block ?_ | refine VC.skip ?_)
        refine VC.region ?_
        refine VR.pure rfl rfl (p_moveI rfl) ?_
        refine VR.pure rfl rfl (p_add64 rfl rfl (by omega)) ?_
        refine VR.pure rfl rfl (p_assignI rfl) ?_
        refine VR.nil ?_
        refine ⟨(i + 1, ((i:Int)), l2, cur2, cs ++ [Cx.mk g m' C'], Ap3, cp3, Lp3), ⟨rfl, rfl, rfl, rfl, rfl, rfl, trivial⟩, ⟨by show i + 1 ≤ 7; omega, G3, hu03, ?_, ?_, hsa2, hll2, by rw [List.length_append, hcl]; rfl, hall, ?_⟩, by show 7 - (i + 1) < 7 - i; omega⟩
        · have h1 := hm.pull 3 rfl
          have h2 : Mem G3 w ([(g, C'.obj m')] :: [(m', C'.map)] :: (blks cs ++ (Lp3 :: [(gl, .cells cur2 74 (0, 0))] :: []))) := h1.pop.permF (flat_perm Lp3 _ _ _ _)
          have h3 := blks_snoc (y := ⟨g, m', C'⟩) h2
          exact h3.permF (flat_perm2 Lp3 _ _)
        · rw [hgs]
          exact hop
        refine .inr ⟨i, ⟨ep, zx, s.r⟩, rfl, by show i < i + 1; omega, hsi, hv, fun j s' hj hs' hvj => ?_⟩
        by_cases hji : j = i
        · subst hji
          rw [hsi] at hs'
          obtain rfl := Option.some.inj hs'
          exact leV_refl _
        · rw [hsj j hji] at hs'
          refine leV_trans (hbl j s' (by dsimp only at hj; omega) hs' hvj) ((leV_iff _ _).2 ?_)
          dsimp only
          omega
      · repeat (first | refine VC.seq ?_ | refine VC.block ?_ | refine VC.skip ?_)
        refine VC.condD rfl (fun q34 => ?_) (fun q34 => ?_)
        · repeat (first | refine VC.seq ?_ | refine VC.block ?_ | refine VC.skip ?_)
          refine VC.region ?_
          refine VR.pure rfl rfl (p_moveI rfl) ?_
          refine VR.pure rfl rfl (p_assignI rfl) ?_
          refine VR.nil ?_
          repeat (first | refine VC.seq ?_ | refine VC.block ?_ | refine VC.skip ?_)
          refine VC.region ?_
          refine VR.pure rfl rfl (p_moveI rfl) ?_
          refine VR.pure rfl rfl (p_add64 rfl rfl (by omega)) ?_
          refine VR.pure rfl rfl (p_assignI rfl) ?_
          refine VR.nil ?_
          refine ⟨(i + 1, ((i:Int)), l2, cur2, cs ++ [Cx.mk g m' C'], Ap3, cp3, Lp3), ⟨rfl, rfl, rfl, rfl, rfl, rfl, trivial⟩, ⟨by show i + 1 ≤ 7; omega, G3, hu03, ?_, ?_, hsa2, hll2, by rw [List.length_append, hcl]; rfl, hall, ?_⟩, by show 7 - (i + 1) < 7 - i; omega⟩
          · have h1 := hm.pull 3 rfl
            have h2 : Mem G3 w ([(g, C'.obj m')] :: [(m', C'.map)] :: (blks cs ++ (Lp3 :: [(gl, .cells cur2 74 (0, 0))] :: []))) := h1.pop.permF (flat_perm Lp3 _ _ _ _)
            have h3 := blks_snoc (y := ⟨g, m', C'⟩) h2
            exact h3.permF (flat_perm2 Lp3 _ _)
          · rw [hgs]
            exact hop
          refine .inr ⟨i, ⟨ep, zx, s.r⟩, rfl, by show i < i + 1; omega, hsi, hv, fun j s' hj hs' hvj => ?_⟩
          by_cases hji : j = i
          · subst hji
            rw [hsi] at hs'
            obtain rfl := Option.some.inj hs'
            exact leV_refl _
          · rw [hsj j hji] at hs'
            refine leV_trans (hbl j s' (by dsimp only at hj; omega) hs' hvj) ((leV_iff _ _).2 ?_)
            dsimp only
            omega
        · repeat (first | refine VC.seq ?_ | refine VC.block ?_ | refine VC.skip ?_)
          repeat (first | refine VC.seq ?_ | refine VC.block ?_ | refine VC.skip ?_)
          refine VC.region ?_
          refine VR.pure rfl rfl (p_moveI rfl) ?_
          refine VR.pure rfl rfl (p_add64 rfl rfl (by omega)) ?_
          refine VR.pure rfl rfl (p_assignI rfl) ?_
          refine VR.nil ?_
          refine ⟨(i + 1, ((bi:Int)), l2, cur2, cs ++ [Cx.mk g m' C'], Ap3, cp3, Lp3), ⟨rfl, rfl, rfl, rfl, rfl, rfl, trivial⟩, ⟨by show i + 1 ≤ 7; omega, G3, hu03, ?_, ?_, hsa2, hll2, by rw [List.length_append, hcl]; rfl, hall, ?_⟩, by show 7 - (i + 1) < 7 - i; omega⟩
          · have h1 := hm.pull 3 rfl
            have h2 : Mem G3 w ([(g, C'.obj m')] :: [(m', C'.map)] :: (blks cs ++ (Lp3 :: [(gl, .cells cur2 74 (0, 0))] :: []))) := h1.pop.permF (flat_perm Lp3 _ _ _ _)
            have h3 := blks_snoc (y := ⟨g, m', C'⟩) h2
            exact h3.permF (flat_perm2 Lp3 _ _)
          · rw [hgs]
            exact hop
          refine .inr ⟨bi, sb, rfl, by show bi < i + 1; omega, hsb2, hvb, fun j s' hj hs' hvj => ?_⟩
          by_cases hji : j = i
          · subst hji
            rw [hsi] at hs'
            obtain rfl := Option.some.inj hs'
            refine (leV_iff _ _).2 ?_
            dsimp only
            omega
          · rw [hsj j hji] at hs'
            exact hbl j s' (by dsimp only at hj; omega) hs' hvj
      · repeat (first | refine VC.seq ?_ | refine VC.block ?_ | refine VC.skip ?_)
        refine VC.condF rfl rfl ?_
        repeat (first | refine VC.seq ?_ | refine VC.block ?_ | refine VC.skip ?_)
        repeat (first | refine VC.seq ?_ | refine VC.block ?_ | refine VC.skip ?_)
        refine VC.region ?_
        refine VR.pure rfl rfl (p_moveI rfl) ?_
        refine VR.pure rfl rfl (p_add64 rfl rfl (by omega)) ?_
        refine VR.pure rfl rfl (p_assignI rfl) ?_
        refine VR.nil ?_
        refine ⟨(i + 1, ((bi:Int)), l2, cur2, cs ++ [Cx.mk g m' C'], Ap3, cp3, Lp3), ⟨rfl, rfl, rfl, rfl, rfl, rfl, trivial⟩, ⟨by show i + 1 ≤ 7; omega, G3, hu03, ?_, ?_, hsa2, hll2, by rw [List.length_append, hcl]; rfl, hall, ?_⟩, by show 7 - (i + 1) < 7 - i; omega⟩
        · have h1 := hm.pull 3 rfl
          have h2 : Mem G3 w ([(g, C'.obj m')] :: [(m', C'.map)] :: (blks cs ++ (Lp3 :: [(gl, .cells cur2 74 (0, 0))] :: []))) := h1.pop.permF (flat_perm Lp3 _ _ _ _)
          have h3 := blks_snoc (y := ⟨g, m', C'⟩) h2
          exact h3.permF (flat_perm2 Lp3 _ _)
        · rw [hgs]
          exact hop
        refine .inr ⟨bi, sb, rfl, by show bi < i + 1; omega, hsb2, hvb, fun j s' hj hs' hvj => ?_⟩
        by_cases hji : j = i
        · subst hji
          rw [hsi] at hs'
          obtain rfl := Option.some.inj hs'
          refine (leV_iff _ _).2 ?_
          dsimp only
          omega
        · rw [hsj j hji] at hs'
          exact hbl j s' (by dsimp only at hj; omega) hs' hvj
      · repeat (first | refine VC.seq ?_ | refine VC.block ?_ | refine VC.skip ?_)
        refine VC.condF rfl rfl ?_
        repeat (first | refine VC.seq ?_ | refine VC.block ?_ | refine VC.skip ?_)
        repeat (first | refine VC.seq ?_ | refine VC.block ?_ | refine VC.skip ?_)
        refine VC.region ?_
        refine VR.pure rfl rfl (p_moveI rfl) ?_
        refine VR.pure rfl rfl (p_add64 rfl rfl (by omega)) ?_
        refine VR.pure rfl rfl (p_assignI rfl) ?_
        refine VR.nil ?_
        refine ⟨(i + 1, ((bi:Int)), l2, cur2, cs ++ [Cx.mk g m' C'], Ap3, cp3, Lp3), ⟨rfl, rfl, rfl, rfl, rfl, rfl, trivial⟩, ⟨by show i + 1 ≤ 7; omega, G3, hu03, ?_, ?_, hsa2, hll2, by rw [List.length_append, hcl]; rfl, hall, ?_⟩, by show 7 - (i + 1) < 7 - i; omega⟩
        · have h1 := hm.pull 3 rfl
          have h2 : Mem G3 w ([(g, C'.obj m')] :: [(m', C'.map)] :: (blks cs ++ (Lp3 :: [(gl, .cells cur2 74 (0, 0))] :: []))) := h1.pop.permF (flat_perm Lp3 _ _ _ _)
          have h3 := blks_snoc (y := ⟨g, m', C'⟩) h2
          exact h3.permF (flat_perm2 Lp3 _ _)
        · rw [hgs]
          exact hop
        refine .inr ⟨bi, sb, rfl, by show bi < i + 1; omega, hsb2, hvb, fun j s' hj hs' hvj => ?_⟩
        by_cases hji : j = i
        · subst hji
          rw [hv] at hvj
          cases hvj
        · rw [hsj j hji] at hs'
          exact hbl j s' (by dsimp only at hj; omega) hs' hvj
  · repeat (first | refine VC.seq ?_ | refine VC.block ?_ | refine VC.skip ?_)
    refine VC.exit ?_
    obtain rfl : i = 7 := by omega
    obtain ⟨G4, hu4, hm, hLp⟩ := hm.freeze
    replace hm := hm.pop
    have hrp : Row G4.heap Ap 7 (ptrs (cs.map Cx.g)) := ho.row1 hLp
    have hu04 := hu0.trans (hu.trans hu4)
    obtain ⟨bp, offp, blkp, Tp, frp, rfl, hbp, hcp⟩ := hrp.get (by omega)
    have hsev : Seven G4.heap (cs.map Cx.g) cs (stOf cs) := ⟨hcl, rfl, fun j x hx => by
      obtain ⟨s', hs', _⟩ := get_of (xs := l) (k := j) (by have := (List.getElem?_eq_some_iff.1 hx).1; omega)
      exact ⟨((hini j x s' hx hs').1).mono hu4.heap, by unfold stOf; rw [hx]; rfl⟩⟩
    have hinS : ∀ j s', j < 7 → l[j]? = some s' → Ini (e.ver, e.ms) j s' (stOf cs j) ∧ 0 ≤ s'.e ∧ 0 ≤ s'.z := fun j s' hj hs' => by
      obtain ⟨x, hx, _⟩ := get_of (xs := cs) (k := j) (by omega)
      have := (hini j x s' hx hs').2
      have h2 : stOf cs j = x.C.abs := by unfold stOf; rw [hx]; rfl
      rw [h2]
      exact this
    obtain ⟨bi, sb, hbe, hbi7, hbJ, hbl0, jj, hj7, hJ0, hjR⟩ := begun hck hinS (by omega) hbest
    subst hbe
    generalize hgs : cs.map Cx.g = gs at hsev hcp
    generalize hR : (stOf cs jj).round = R at hJ0
    clear hjR
    generalize stOf cs = S0 at hsev hJ0 hR hbJ
    have hbB : (⟨(bi + 1 : Nat), sb.e, sb.z⟩ : Vt).l ≠ 0 := by show ((bi + 1 : Nat) : Int) ≠ 0; omega
    have hBl : (⟨(bi + 1 : Nat), sb.e, sb.z⟩ : Vt).l = (bi : Int) + 1 := by show ((bi + 1 : Nat) : Int) = _; omega
    generalize (⟨(bi + 1 : Nat), sb.e, sb.z⟩ : Vt) = B at hJ0 hbJ hbB hBl
    clear hini hbest hrp hLp ho hsa hinS
    repeat (first | refine VC.seq ?_ | refine VC.block ?_ | refine VC.skip ?_)
    refine VC.region ?_
    refine VR.pure rfl rfl (p_assignI rfl) ?_
    refine VR.nil ?_
    repeat (first | refine VC.seq ?_ | refine VC.block ?_ | refine VC.skip ?_)
    refine VC.loop (σ := Nat × List Cx × (Nat → Ca)) (fun s => [(2, .slice A2 n2 c2), (7, .slice (some ⟨bp, offp, none⟩) 7 cp), (8, .int .i64 bi), (13, .int .i64 s.1)])
      (fun s w => s.1 ≤ n2 ∧ Mem G4 w (blks s.2.1 ++ []) ∧ Seven G4.heap gs s.2.1 s.2.2 ∧ JS (e.ver, e.ms) B R s.2.2 ∧ (s.2.2 jj).round = R ∧ own (s.2.2 bi) = B) (fun s => n2 - s.1) (0, cs, S0) ⟨rfl, rfl, rfl, rfl, trivial⟩ ⟨by show 0 ≤ n2; omega, hm, hsev, hJ0, hR, hbJ⟩ ?_
    clear hm hsev hJ0 hR hbJ hgs hcl
    rintro ⟨k, cs, S⟩ A7 w ⟨hk, hm, hsev, hJ, hjR, hbJ⟩
    dsimp only at hk hm hsev hJ hjR hbJ ⊢
    repeat (first | refine VC.seq ?_ | refine VC.block ?_ | refine VC.skip ?_)
    refine VC.region ?_
    refine VR.pure rfl rfl (p_moveI rfl) ?_
    refine VR.pure rfl rfl (p_moveL rfl) ?_
    refine VR.pure rfl rfl (p_len Try.underlying70 rfl) ?_
    refine VR.pure rfl rfl (p_lt rfl rfl) ?_
    refine VR.nil ?_
    repeat (first | refine VC.seq ?_ | refine VC.block ?_ | refine VC.skip ?_)
    refine VC.condD rfl (fun hlt => ?_) (fun hlt => ?_)
    · have hk' : k < n2 := by omega
      obtain ⟨b, off, blk, T, fr, rfl, hb, hc⟩ := hxs.get (by omega)
      replace hb := hu04.heap _ _ hb
      have hck2 := (hc k hk').trans (cell_getD (xs := xs) (by omega))
      repeat (first | refine VC.seq ?_ | refine VC.block ?_ | refine VC.skip ?_)
      repeat (first | refine VC.seq ?_ | refine VC.block ?_ | refine VC.skip ?_)
      refine VC.loud (Kept G4 []) [4, 10] rfl (by kernel_rfl) (Kept.of0 hm.drew) ?_
      replace hm := hm.drew
      refine VL.pure rfl rfl rfl (p_moveL rfl) ?_
      refine VL.pure rfl rfl rfl (p_moveI rfl) ?_
      refine VL.pure rfl rfl rfl (p_idx1 Try.underlying70 Try.sizeOf3 rfl rfl hk') ?_
      refine VL.read rfl rfl rfl (fun w' hw' => r_load (v := .int _ _) Try.isAgg3 rfl (hw'.fix _ _ hb) hck2) ?_
      refine VL.call rfl rfl rfl (r_call2 Try.call14 rfl rfl) (pick_c (n := 7) (by decide)) ?_
      rintro _ _ ⟨⟨f, hf, rfl⟩, rfl⟩
      refine ⟨Kept.of0 hm, ?_⟩
      refine VL.pure rfl rfl rfl (p_moveL rfl) ?_
      refine VL.pure rfl rfl rfl (p_moveI rfl) ?_
      refine VL.pure rfl rfl rfl (p_idx1 Try.underlying70 Try.sizeOf3 rfl rfl hk') ?_
      refine VL.read rfl rfl rfl (fun w' hw' => r_load (v := .int _ _) Try.isAgg3 rfl (hw'.fix _ _ hb) hck2) ?_
      refine VL.pure rfl rfl rfl (p_quo rfl rfl (by omega)) ?_
      refine VL.call rfl rfl rfl (r_call2 Try.call14 rfl rfl) (pick_c (n := 7) (by decide)) ?_
      rintro _ _ ⟨⟨t, ht, rfl⟩, rfl⟩
      refine ⟨Kept.of0 hm, ?_⟩
      refine VL.pure rfl rfl rfl (p_assignI rfl) ?_
      refine VL.pure rfl rfl rfl (p_assignI rfl) ?_
      refine VL.nil ?_
      have hf7 : f < 7 := by omega
      have ht7 : t < 7 := by omega
      obtain ⟨xf, hxf, hgf, hCf, habf⟩ := hsev.get hf7
      obtain ⟨xt, hxt, hgt, hCt, habt⟩ := hsev.get ht7
      repeat (first | refine VC.seq ?_ | refine VC.block ?_ | refine VC.skip ?_)
      refine VC.loud (Kept G4 []) [10, 11] rfl (by kernel_rfl) (Kept.of0 hm.drew) ?_
      replace hm := hm.drew
      refine VL.pure rfl rfl rfl (p_moveL rfl) ?_
      refine VL.pure rfl rfl rfl (p_moveI rfl) ?_
      refine VL.pure rfl rfl rfl (p_idxN Try.underlying72 Try.sizeOf27 rfl rfl ht7) ?_
      refine VL.read rfl rfl rfl (fun w' hw' => r_load (v := .pointer _) Try.isAgg27 rfl (hw'.fix _ _ hbp) (by rw [Nat.mul_one]; exact (hcp _ ht7).trans (ptrs_at hgt))) ?_
      refine VL.pure rfl rfl rfl (p_moveI rfl) ?_
      refine VL.pure rfl rfl rfl (p_add64E (r := ((f + 1 : Nat) : Int)) rfl rfl (by omega) (by omega)) ?_
      refine VL.pure rfl rfl rfl (p_moveL rfl) ?_
      refine VL.pure rfl rfl rfl (p_moveI rfl) ?_
      refine VL.pure rfl rfl rfl (p_idxN Try.underlying72 Try.sizeOf27 rfl rfl hf7) ?_
      refine VL.read rfl rfl rfl (fun w' hw' => r_load (v := .pointer _) Try.isAgg27 rfl (hw'.fix _ _ hbp) (by rw [Nat.mul_one]; exact (hcp _ hf7).trans (ptrs_at hgf))) ?_
      refine VL.call rfl rfl rfl (r_call1 Try.call22 rfl) (vote_f (C := xf.C) hm.all (blks_at hm hxf) hCf.id.1) ?_
      rintro _ w ⟨rfl, hm'⟩
      replace hm := hm.back0 hm'
      refine ⟨Kept.of0 hm, ?_⟩
      replace hm := blks_pull hm hxt
      refine VL.call rfl rfl rfl (r_call3 Try.call15 rfl rfl rfl) (hear_c (t := votA' xf.C.abs) hm hCt ⟨rfl, rfl, rfl, rfl, rfl, rfl⟩) ?_
      rintro _ w ⟨m', C', rfl, hC', hab', hm⟩
      refine ⟨Kept.of0 hm, ?_⟩
      refine VL.nil ?_
      replace hm := blks_push hxt (x' := ⟨xt.g, m', C'⟩) hm
      rw [habf, habt] at hab'
      have hsev' : Seven G4.heap gs (cs.set t ⟨xt.g, m', C'⟩) (stepS S f t) := hsev.set (x' := ⟨xt.g, m', C'⟩) (S' := stepS S f t) hxt rfl hC' (by unfold stepS; rw [if_pos rfl]; exact hab') fun j hj => by unfold stepS; rw [if_neg hj]
      repeat (first | refine VC.seq ?_ | refine VC.block ?_ | refine VC.skip ?_)
      refine VC.region ?_
      refine VR.pure rfl rfl (p_moveI rfl) ?_
      refine VR.pure rfl rfl (p_add64 rfl rfl (by omega)) ?_
      refine VR.pure rfl rfl (p_assignI rfl) ?_
      refine VR.nil ?_
      refine ⟨(k + 1, _, stepS S f t), ⟨rfl, rfl, rfl, rfl, trivial⟩, ⟨by show k + 1 ≤ n2; omega, hm, hsev', hJ.step hf7 ht7, ?_, by show own (stepS S f t bi) = B; rw [step_own]; exact hbJ⟩, by show n2 - (k + 1) < n2 - k; omega⟩
      have q1 := (hJ.step hf7 ht7).round jj hj7
      have q2 := step_round S f t jj
      show (stepS S f t jj).round = R
      omega
    repeat (first | refine VC.seq ?_ | refine VC.block ?_ | refine VC.skip ?_)
    refine VC.exit ?_
    have hagree := fun j (hj : j < 7) => agree (i := j) hck hJ hj7 hjR hbi7 hbJ hbB hj
    generalize hT : runS S 20 = T at hagree
    clear hbB hjR hbJ hj7
    repeat (first | refine VC.seq ?_ | refine VC.block ?_ | refine VC.skip ?_)
    refine VC.region ?_
    refine VR.pure rfl rfl (p_assignI rfl) ?_
    refine VR.nil ?_
    repeat (first | refine VC.seq ?_ | refine VC.block ?_ | refine VC.skip ?_)
    refine VC.loop (σ := Nat × List Cx) (fun s => [(7, .slice (some ⟨bp, offp, none⟩) 7 cp), (8, .int .i64 bi), (16, .int .i64 s.1)])
      (fun s w => s.1 ≤ 20 ∧ Mem G4 w (blks s.2 ++ []) ∧ Seven G4.heap gs s.2 (runS S s.1)) (fun s => 20 - s.1) (0, cs) ⟨rfl, rfl, rfl, trivial⟩ ⟨by show 0 ≤ 20; omega, hm, hsev⟩ ?_
    clear hm hsev
    rintro ⟨kk, cs⟩ A8 w ⟨hkk, hm, hsev⟩
    dsimp only at hkk hm hsev ⊢
    repeat (first | refine VC.seq ?_ | refine VC.block ?_ | refine VC.skip ?_)
    refine VC.region ?_
    refine VR.pure rfl rfl (p_moveI rfl) ?_
    refine VR.pure rfl rfl (p_lt rfl rfl) ?_
    refine VR.nil ?_
    repeat (first | refine VC.seq ?_ | refine VC.block ?_ | refine VC.skip ?_)
    refine VC.condD rfl (fun hk20 => ?_) (fun hk20 => ?_)
    · repeat (first | refine VC.seq ?_ | refine VC.block ?_ | refine VC.skip ?_)
      repeat (first | refine VC.seq ?_ | refine VC.block ?_ | refine VC.skip ?_)
      refine VC.region ?_
      refine VR.pure rfl rfl (p_assignI rfl) ?_
      refine VR.nil ?_
      repeat (first | refine VC.seq ?_ | refine VC.block ?_ | refine VC.skip ?_)
      refine VC.loop (σ := Nat × List Cx) (fun s => [(7, .slice (some ⟨bp, offp, none⟩) 7 cp), (8, .int .i64 bi), (16, .int .i64 kk), (17, .int .i64 s.1)])
        (fun s w => s.1 ≤ 7 ∧ Mem G4 w (blks s.2 ++ []) ∧ Seven G4.heap gs s.2 (matS (runS S kk) s.1)) (fun s => 7 - s.1) (0, cs) ⟨rfl, rfl, rfl, rfl, trivial⟩ ⟨by show 0 ≤ 7; omega, hm, hsev⟩ ?_
      clear hm hsev
      rintro ⟨f, cs⟩ A9 w ⟨hf, hm, hsev⟩
      dsimp only at hf hm hsev ⊢
      repeat (first | refine VC.seq ?_ | refine VC.block ?_ | refine VC.skip ?_)
      refine VC.region ?_
      refine VR.pure rfl rfl (p_moveI rfl) ?_
      refine VR.pure rfl rfl (p_lt rfl rfl) ?_
      refine VR.nil ?_
      repeat (first | refine VC.seq ?_ | refine VC.block ?_ | refine VC.skip ?_)
      refine VC.condD rfl (fun hf2 => ?_) (fun hf2 => ?_)
      · have hf7 : f < 7 := by omega
        repeat (first | refine VC.seq ?_ | refine VC.block ?_ | refine VC.skip ?_)
        repeat (first | refine VC.seq ?_ | refine VC.block ?_ | refine VC.skip ?_)
        refine VC.region ?_
        refine VR.pure rfl rfl (p_assignI rfl) ?_
        refine VR.nil ?_
        repeat (first | refine VC.seq ?_ | refine VC.block ?_ | refine VC.skip ?_)
        refine VC.loop (σ := Nat × List Cx) (fun s => [(7, .slice (some ⟨bp, offp, none⟩) 7 cp), (8, .int .i64 bi), (16, .int .i64 kk), (17, .int .i64 f), (18, .int .i64 s.1)])
          (fun s w => s.1 ≤ 7 ∧ Mem G4 w (blks s.2 ++ []) ∧ Seven G4.heap gs s.2 (rowS (matS (runS S kk) f) f s.1)) (fun s => 7 - s.1) (0, cs) ⟨rfl, rfl, rfl, rfl, rfl, trivial⟩ ⟨by show 0 ≤ 7; omega, hm, hsev⟩ ?_
        clear hm hsev
        rintro ⟨t, cs⟩ B1 w ⟨ht, hm, hsev⟩
        dsimp only at ht hm hsev ⊢
        repeat (first | refine VC.seq ?_ | refine VC.block ?_ | refine VC.skip ?_)
        refine VC.region ?_
        refine VR.pure rfl rfl (p_moveI rfl) ?_
        refine VR.pure rfl rfl (p_lt rfl rfl) ?_
        refine VR.nil ?_
        repeat (first | refine VC.seq ?_ | refine VC.block ?_ | refine VC.skip ?_)
        refine VC.condD rfl (fun ht2 => ?_) (fun ht2 => ?_)
        · have ht7 : t < 7 := by omega
          have hrow : stepS (rowS (matS (runS S kk) f) f t) f t = rowS (matS (runS S kk) f) f (t + 1) := rfl
          generalize rowS (matS (runS S kk) f) f t = S at hsev hrow
          repeat (first | refine VC.seq ?_ | refine VC.block ?_ | refine VC.skip ?_)
          obtain ⟨xf, hxf, hgf, hCf, habf⟩ := hsev.get hf7
          obtain ⟨xt, hxt, hgt, hCt, habt⟩ := hsev.get ht7
          repeat (first | refine VC.seq ?_ | refine VC.block ?_ | refine VC.skip ?_)
          refine VC.loud (Kept G4 []) [10, 11] rfl (by kernel_rfl) (Kept.of0 hm.drew) ?_
          replace hm := hm.drew
          refine VL.pure rfl rfl rfl (p_moveL rfl) ?_
          refine VL.pure rfl rfl rfl (p_moveI rfl) ?_
          refine VL.pure rfl rfl rfl (p_idxN Try.underlying72 Try.sizeOf27 rfl rfl ht7) ?_
          refine VL.read rfl rfl rfl (fun w' hw' => r_load (v := .pointer _) Try.isAgg27 rfl (hw'.fix _ _ hbp) (by rw [Nat.mul_one]; exact (hcp _ ht7).trans (ptrs_at hgt))) ?_
          refine VL.pure rfl rfl rfl (p_moveI rfl) ?_
          refine VL.pure rfl rfl rfl (p_add64E (r := ((f + 1 : Nat) : Int)) rfl rfl (by omega) (by omega)) ?_
          refine VL.pure rfl rfl rfl (p_moveL rfl) ?_
          refine VL.pure rfl rfl rfl (p_moveI rfl) ?_
          refine VL.pure rfl rfl rfl (p_idxN Try.underlying72 Try.sizeOf27 rfl rfl hf7) ?_
          refine VL.read rfl rfl rfl (fun w' hw' => r_load (v := .pointer _) Try.isAgg27 rfl (hw'.fix _ _ hbp) (by rw [Nat.mul_one]; exact (hcp _ hf7).trans (ptrs_at hgf))) ?_
          refine VL.call rfl rfl rfl (r_call1 Try.call22 rfl) (vote_f (C := xf.C) hm.all (blks_at hm hxf) hCf.id.1) ?_
          rintro _ w ⟨rfl, hm'⟩
          replace hm := hm.back0 hm'
          refine ⟨Kept.of0 hm, ?_⟩
          replace hm := blks_pull hm hxt
          refine VL.call rfl rfl rfl (r_call3 Try.call15 rfl rfl rfl) (hear_c (t := votA' xf.C.abs) hm hCt ⟨rfl, rfl, rfl, rfl, rfl, rfl⟩) ?_
          rintro _ w ⟨m', C', rfl, hC', hab', hm⟩
          refine ⟨Kept.of0 hm, ?_⟩
          refine VL.nil ?_
          replace hm := blks_push hxt (x' := ⟨xt.g, m', C'⟩) hm
          rw [habf, habt] at hab'
          have hsev' : Seven G4.heap gs (cs.set t ⟨xt.g, m', C'⟩) (stepS S f t) := hsev.set (x' := ⟨xt.g, m', C'⟩) (S' := stepS S f t) hxt rfl hC' (by unfold stepS; rw [if_pos rfl]; exact hab') fun j hj => by unfold stepS; rw [if_neg hj]
          repeat (first | refine VC.seq ?_ | refine VC.block ?_ | refine VC.skip ?_)
          refine VC.region ?_
          refine VR.pure rfl rfl (p_moveI rfl) ?_
          refine VR.pure rfl rfl (p_add64 rfl rfl (by omega)) ?_
          refine VR.pure rfl rfl (p_assignI rfl) ?_
          refine VR.nil ?_
          rw [hrow] at hsev'
          exact ⟨(t + 1, _), ⟨rfl, rfl, rfl, rfl, rfl, trivial⟩, ⟨by show t + 1 ≤ 7; omega, hm, hsev'⟩, by show 7 - (t + 1) < 7 - t; omega⟩
        · repeat (first | refine VC.seq ?_ | refine VC.block ?_ | refine VC.skip ?_)
          refine VC.exit ?_
          obtain rfl : t = 7 := by omega
          repeat (first | refine VC.seq ?_ | refine VC.block ?_ | refine VC.skip ?_)
          refine VC.region ?_
          refine VR.pure rfl rfl (p_moveI rfl) ?_
          refine VR.pure rfl rfl (p_add64 rfl rfl (by omega)) ?_
          refine VR.pure rfl rfl (p_assignI rfl) ?_
          refine VR.nil ?_
          exact ⟨(f + 1, cs), ⟨rfl, rfl, rfl, rfl, trivial⟩, ⟨by show f + 1 ≤ 7; omega, hm, hsev⟩, by show 7 - (f + 1) < 7 - f; omega⟩
      · repeat (first | refine VC.seq ?_ | refine VC.block ?_ | refine VC.skip ?_)
        refine VC.exit ?_
        obtain rfl : f = 7 := by omega
        repeat (first | refine VC.seq ?_ | refine VC.block ?_ | refine VC.skip ?_)
        refine VC.region ?_
        refine VR.pure rfl rfl (p_moveI rfl) ?_
        refine VR.pure rfl rfl (p_add64 rfl rfl (by omega)) ?_
        refine VR.pure rfl rfl (p_assignI rfl) ?_
        refine VR.nil ?_
        exact ⟨(kk + 1, cs), ⟨rfl, rfl, rfl, trivial⟩, ⟨by show kk + 1 ≤ 20; omega, hm, hsev⟩, by show 20 - (kk + 1) < 20 - kk; omega⟩
    repeat (first | refine VC.seq ?_ | refine VC.block ?_ | refine VC.skip ?_)
    refine VC.exit ?_
    obtain rfl : kk = 20 := by omega
    rw [hT] at hsev
    repeat (first | refine VC.seq ?_ | refine VC.block ?_ | refine VC.skip ?_)
    refine VC.region ?_
    refine VR.pure rfl rfl (p_assignI rfl) ?_
    refine VR.nil ?_
    repeat (first | refine VC.seq ?_ | refine VC.block ?_ | refine VC.skip ?_)
    refine VC.loop (σ := Nat × List Cx) (fun s => [(7, .slice (some ⟨bp, offp, none⟩) 7 cp), (8, .int .i64 bi), (19, .int .i64 s.1)])
      (fun s w => s.1 ≤ 7 ∧ Mem G4 w (blks s.2 ++ []) ∧ Seven G4.heap gs s.2 (fun j => if j < s.1 then (tickA (tickA (T j)).2).2 else T j)) (fun s => 7 - s.1) (0, cs) ⟨rfl, rfl, rfl, trivial⟩ ⟨by show 0 ≤ 7; omega, hm, by
        show Seven _ _ _ (fun j => if j < 0 then _ else T j)
        have : (fun j => if j < 0 then (tickA (tickA (T j)).2).2 else T j) = T := funext fun j => if_neg (by omega)
        rw [this]
        exact hsev⟩ ?_
    clear hm hsev
    rintro ⟨i, cs⟩ B2 w ⟨hi, hm, hsev⟩
    dsimp only at hi hm hsev ⊢
    repeat (first | refine VC.seq ?_ | refine VC.block ?_ | refine VC.skip ?_)
    refine VC.region ?_
    refine VR.pure rfl rfl (p_moveI rfl) ?_
    refine VR.pure rfl rfl (p_lt rfl rfl) ?_
    refine VR.nil ?_
    repeat (first | refine VC.seq ?_ | refine VC.block ?_ | refine VC.skip ?_)
    refine VC.condD rfl (fun hi2 => ?_) (fun hi2 => ?_)
    · have hi7 : i < 7 := by omega
      obtain ⟨x, hx, hgx, hCx, habx⟩ := hsev.get hi7
      rw [if_neg (by omega)] at habx
      repeat (first | refine VC.seq ?_ | refine VC.block ?_ | refine VC.skip ?_)
      repeat (first | refine VC.seq ?_ | refine VC.block ?_ | refine VC.skip ?_)
      refine VC.region ?_
      refine VR.pure rfl rfl (p_moveL rfl) ?_
      refine VR.pure rfl rfl (p_moveI rfl) ?_
      refine VR.pure rfl rfl (p_idxN Try.underlying72 Try.sizeOf27 rfl rfl hi7) ?_
      refine VR.val rfl rfl (r_load (v := .pointer _) Try.isAgg27 rfl (hm.fix _ _ hbp) (by rw [Nat.mul_one]; exact (hcp _ hi7).trans (ptrs_at hgx))) ?_
      replace hm := blks_pull hm hx
      refine VR.call rfl rfl (r_call1 Try.call17 rfl) (tick_c hm hCx) ?_
      rintro _ w ⟨D1, rfl, hD1, hab1, hm⟩
      refine VR.nil ?_
      repeat (first | refine VC.seq ?_ | refine VC.block ?_ | refine VC.skip ?_)
      refine VC.region ?_
      refine VR.pure rfl rfl (p_moveL rfl) ?_
      refine VR.pure rfl rfl (p_moveI rfl) ?_
      refine VR.pure rfl rfl (p_idxN Try.underlying72 Try.sizeOf27 rfl rfl hi7) ?_
      refine VR.val rfl rfl (r_load (v := .pointer _) Try.isAgg27 rfl (hm.fix _ _ hbp) (by rw [Nat.mul_one]; exact (hcp _ hi7).trans (ptrs_at hgx))) ?_
      refine VR.call rfl rfl (r_call1 Try.call17 rfl) (tick_c hm hD1) ?_
      rintro _ w ⟨D2, rfl, hD2, hab2, hm⟩
      refine VR.pure rfl rfl (p_moveT rfl) ?_
      refine VR.pure rfl rfl (p_extract rfl rfl) ?_
      refine VR.pure rfl rfl (p_extract rfl rfl) ?_
      refine VR.pure rfl rfl (p_assignI rfl) ?_
      refine VR.pure rfl rfl (p_assignB rfl) ?_
      refine VR.nil ?_
      replace hm := blks_push hx (x' := ⟨x.g, x.m, D2⟩) hm
      rw [habx] at hab1
      rw [hab1] at hab2
      have hres : (tickA D1.abs).1 = (B.l, true) := by rw [hab1]; exact hagree i hi7
      have hsev' : Seven G4.heap gs (cs.set i ⟨x.g, x.m, D2⟩) (fun j => if j < i + 1 then (tickA (tickA (T j)).2).2 else T j) := hsev.set (x' := ⟨x.g, x.m, D2⟩) (S' := fun j => if j < i + 1 then (tickA (tickA (T j)).2).2 else T j) hx rfl hD2 (by rw [if_pos (by omega)]; exact hab2) fun j hj => by
        by_cases e : j < i
        · rw [if_pos e, if_pos (by omega)]
        · rw [if_neg e, if_neg (by omega)]
      repeat (first | refine VC.seq ?_ | refine VC.block ?_ | refine VC.skip ?_)
      refine VC.region ?_
      refine VR.pure rfl rfl (p_moveB rfl) ?_
      refine VR.pure rfl rfl (p_not rfl) ?_
      refine VR.pure rfl rfl (p_moveB rfl) ?_
      refine VR.knownF 199 rfl (by rw [hres]; rfl) ?_
      refine VR.pureG rfl rfl (p_moveI rfl) ?_
      refine VR.pureG rfl rfl (p_moveI rfl) ?_
      refine VR.pureG rfl rfl (p_add64 rfl rfl (by omega)) ?_
      refine VR.pureG rfl rfl (p_ne rfl rfl) ?_
      refine VR.pure rfl rfl (p_pickF rfl rfl) ?_
      refine VR.nil ?_
      repeat (first | refine VC.seq ?_ | refine VC.block ?_ | refine VC.skip ?_)
      refine VC.condF rfl (decide_eq_false (not_not_intro (by rw [hres]; exact hBl))) ?_
      repeat (first | refine VC.seq ?_ | refine VC.block ?_ | refine VC.skip ?_)
      repeat (first | refine VC.seq ?_ | refine VC.block ?_ | refine VC.skip ?_)
      refine VC.region ?_
      refine VR.pure rfl rfl (p_moveI rfl) ?_
      refine VR.pure rfl rfl (p_add64 rfl rfl (by omega)) ?_
      refine VR.pure rfl rfl (p_assignI rfl) ?_
      refine VR.nil ?_
      exact ⟨(i + 1, _), ⟨rfl, rfl, rfl, trivial⟩, ⟨by show i + 1 ≤ 7; omega, hm, hsev'⟩, by show 7 - (i + 1) < 7 - i; omega⟩
    · repeat (first | refine VC.seq ?_ | refine VC.block ?_ | refine VC.skip ?_)
      refine VC.exit ?_
      repeat (first | refine VC.seq ?_ | refine VC.block ?_ | refine VC.skip ?_)
      refine VC.region ?_
      refine VR.pure rfl rfl (p_assignB rfl) ?_
      refine VR.nil ?_
      repeat (first | refine VC.seq ?_ | refine VC.block ?_ | refine VC.skip ?_)
      refine VC.ret ⟨_, ResOf.r1 (v := .bool _) rfl rfl, ?_⟩
      exact ⟨rfl, hm.none_.shrink hu04⟩
end Go.Bd
namespace Go.Proofs.Ytnakbhpgcngofaa
open Go.Bd Go.ChangeShapes Go.WideShapes

set_option maxRecDepth 100000 in
theorem agrees_lifted (os : Os) (started : os.Started) (H : Type) (enc : TypeId × Value → H) :
    ReturnsInHanded {} Try.checked os 5 .any (Rows.chooseAgreesSpec.pre6 enc Try.prog Try.f5 Rows.chooseAgreesRow.domain false) (Rows.chooseAgreesSpec.post enc Try.prog Try.f5 false true false false) := by
  refine law_frame (C := Try.checked) (tb := 4) (by kernel_rfl) (by kernel_rfl) started (by kernel_rfl) Try.func5 rfl rfl Try.underlying4 (by kernel_rfl) ?_
    (ChangeSpec.witness6 (enc := enc) (C := Try.checked) false ⟨#[], #[.agg #[.int .i64 0, .slice none 0 0], .slice none 0 0, .slice none 0 0], []⟩ 8 (by kernel_rfl) (by kernel_rfl) (by kernel_rfl) (by kernel_rfl)) ?_
  · intro ds hl
    match ds, hl with
    | [d1, d2, d3], _ => rfl
  · intro W base args ds p hval hA hwt
    replace hA : DataW.TrodAll enc Try.prog W 0 (fun _ => true) true Try.f5.params.toList args.toList ds p := hA
    rw [Try.params5] at hA hval
    replace hwt : (DataW.weightsEach Try.prog [42, 69, 70] ds).all (· ≤ reachBytes) = true := hwt
    obtain ⟨v0, vs0, d0, ds0, p0, q0, hargs, rfl, rfl, h0, r0⟩ := trodAll_cons hA
    obtain ⟨v1, vs1, d1, ds1, p1, q1, rfl, rfl, rfl, h1, r1⟩ := trodAll_cons r0
    obtain ⟨v2, vs2, d2, ds2, p2, q2, rfl, rfl, rfl, h2, r2⟩ := trodAll_cons r1
    obtain ⟨rfl, rfl, rfl⟩ := trodAll_nil r2
    obtain rfl : args = #[v0, v1, v2] := by cases args; simp_all
    obtain ⟨A2, n2, c2, xs2, rfl, hn2, hc2, hr2, w2, hd2⟩ := arg_ints Try.underlying70 Try.underlying3 (by kernel_rfl) (hval 2 70 v2 rfl rfl) h2
    obtain ⟨e, rfl, hok, hsm⟩ := open_en (hval 0 42 v0 rfl rfl) h0 (LightAll.cons hwt).1
    obtain ⟨A1, n1, c1, sv, rfl, hn1, hc1, hb1, hsv, hsl⟩ := open_servers (hval 1 69 v1 rfl rfl) h1 (LightAll.cons (LightAll.cons hwt).2).1
    exact choose_agrees_c (Nat.le_trans hok.2.1 hok.2.2) hok.1 hok (by have := hok.2.1; unfold reachBytes at hsm; omega) hsv hsl (by unfold reachBytes at hb1; omega) hr2 (Nat.le_trans hn2 hc2) (Mem.of W)

theorem agrees : Rows.ChooseAgreesSaid :=
  OpenClaim.holds_of_wide 5 Try.f5 rfl rfl rfl rfl rfl rfl rfl ⟨rfl, rfl, rfl, rfl, rfl⟩ rfl rfl rfl rfl rfl (by kernel_rfl) Try.func5 (by kernel_rfl)
    (of_decide_eq_true (by kernel_rfl)) (by unfold Func.isWrapper; rw [if_neg (of_decide_eq_false (by kernel_rfl))]; exact ⟨rfl, rfl⟩)
    (fun os started H enc _ => agrees_lifted os started H enc)
end Go.Proofs.Ytnakbhpgcngofaa
