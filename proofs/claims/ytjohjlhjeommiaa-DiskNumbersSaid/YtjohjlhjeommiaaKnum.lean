/- DiskNumbers: names, rooms, files and cuts at their ends, renames over others, and refusals in their order are told as written by hand. Conditions: none. -/
import Derived.Test.Ytjohjlhjeommiaa08m
import Derived.Test.Ytjohjlhjeommiaa08k
import Derived.Test.YtjohjlhjeommiaaOpen
namespace Go.Bd
open Go.Proofs Go.ChangeShapes Go.WideShapes
set_option linter.unusedVariables false
set_option maxRecDepth 20000

abbrev long30 : ByteArray := ⟨#[97, 97, 97, 97, 97, 97, 97, 97, 97, 97, 97, 97, 97, 97, 97, 97, 97, 97, 97, 97, 97, 97, 97, 97, 97, 97, 97, 97, 97, 97]⟩
abbrev long31 : ByteArray := ⟨#[97, 97, 97, 97, 97, 97, 97, 97, 97, 97, 97, 97, 97, 97, 97, 97, 97, 97, 97, 97, 97, 97, 97, 97, 97, 97, 97, 97, 97, 97, 97]⟩
theorem long_is : (⟨(Lib.repeatL (ByteArray.mk #[97]).data.toList 30).toArray⟩ : ByteArray) = long30 := by kernel_rfl
theorem long_on : long30 ++ (ByteArray.mk #[97]) = long31 := by kernel_rfl
abbrev yesL : List ByteArray := [⟨#[97]⟩, ⟨#[122]⟩, ⟨#[48]⟩, ⟨#[57]⟩, ⟨#[46]⟩, ⟨#[45]⟩, ⟨#[46, 46]⟩, long30]
abbrev noL : List ByteArray := [⟨#[]⟩, ⟨#[65]⟩, ⟨#[97, 32, 98]⟩, ⟨#[97, 47, 98]⟩, ⟨#[95]⟩, ⟨#[0]⟩, ⟨#[255]⟩, long31, ⟨#[96]⟩, ⟨#[123]⟩, ⟨#[58]⟩]
def yesA (k : Nat) : Da := ⟨1073741824, (yesL.take k).map fun s => (s, [1], 0)⟩
theorem yes_step : ∀ (k : Nat) (x : ByteArray), yesL[k]? = some x → x.size ≤ 100 ∧ appD (yesA k) x [1] = (0, yesA (k + 1))
  | 0, x, h => by
    obtain rfl := Option.some.inj (show some _ = some x from h)
    exact ⟨by decide, by kernel_rfl⟩
  | 1, x, h => by
    obtain rfl := Option.some.inj (show some _ = some x from h)
    exact ⟨by decide, by kernel_rfl⟩
  | 2, x, h => by
    obtain rfl := Option.some.inj (show some _ = some x from h)
    exact ⟨by decide, by kernel_rfl⟩
  | 3, x, h => by
    obtain rfl := Option.some.inj (show some _ = some x from h)
    exact ⟨by decide, by kernel_rfl⟩
  | 4, x, h => by
    obtain rfl := Option.some.inj (show some _ = some x from h)
    exact ⟨by decide, by kernel_rfl⟩
  | 5, x, h => by
    obtain rfl := Option.some.inj (show some _ = some x from h)
    exact ⟨by decide, by kernel_rfl⟩
  | 6, x, h => by
    obtain rfl := Option.some.inj (show some _ = some x from h)
    exact ⟨by decide, by kernel_rfl⟩
  | 7, x, h => by
    obtain rfl := Option.some.inj (show some _ = some x from h)
    exact ⟨by decide, by kernel_rfl⟩
  | k + 8, x, h => by simp at h
structure No (x : ByteArray) : Prop where
  small : x.size ≤ 100
  app : appD (yesA 8) x [1] = (2, yesA 8)
  ren : renD (yesA 8) x nA = (2, yesA 8)
  ren2 : renD (yesA 8) nA x = (2, yesA 8)
  sync : syncD (yesA 8) x = (6, yesA 8)
  rem : remD (yesA 8) x = (6, yesA 8)
  cut : cutD (yesA 8) x 0 = (6, yesA 8)
theorem no_step : ∀ (k : Nat) (x : ByteArray), noL[k]? = some x → No x
  | 0, x, h => by
    obtain rfl := Option.some.inj (show some _ = some x from h)
    exact ⟨by decide, by kernel_rfl, by kernel_rfl, by kernel_rfl, by kernel_rfl, by kernel_rfl, by kernel_rfl⟩
  | 1, x, h => by
    obtain rfl := Option.some.inj (show some _ = some x from h)
    exact ⟨by decide, by kernel_rfl, by kernel_rfl, by kernel_rfl, by kernel_rfl, by kernel_rfl, by kernel_rfl⟩
  | 2, x, h => by
    obtain rfl := Option.some.inj (show some _ = some x from h)
    exact ⟨by decide, by kernel_rfl, by kernel_rfl, by kernel_rfl, by kernel_rfl, by kernel_rfl, by kernel_rfl⟩
  | 3, x, h => by
    obtain rfl := Option.some.inj (show some _ = some x from h)
    exact ⟨by decide, by kernel_rfl, by kernel_rfl, by kernel_rfl, by kernel_rfl, by kernel_rfl, by kernel_rfl⟩
  | 4, x, h => by
    obtain rfl := Option.some.inj (show some _ = some x from h)
    exact ⟨by decide, by kernel_rfl, by kernel_rfl, by kernel_rfl, by kernel_rfl, by kernel_rfl, by kernel_rfl⟩
  | 5, x, h => by
    obtain rfl := Option.some.inj (show some _ = some x from h)
    exact ⟨by decide, by kernel_rfl, by kernel_rfl, by kernel_rfl, by kernel_rfl, by kernel_rfl, by kernel_rfl⟩
  | 6, x, h => by
    obtain rfl := Option.some.inj (show some _ = some x from h)
    exact ⟨by decide, by kernel_rfl, by kernel_rfl, by kernel_rfl, by kernel_rfl, by kernel_rfl, by kernel_rfl⟩
  | 7, x, h => by
    obtain rfl := Option.some.inj (show some _ = some x from h)
    exact ⟨by decide, by kernel_rfl, by kernel_rfl, by kernel_rfl, by kernel_rfl, by kernel_rfl, by kernel_rfl⟩
  | 8, x, h => by
    obtain rfl := Option.some.inj (show some _ = some x from h)
    exact ⟨by decide, by kernel_rfl, by kernel_rfl, by kernel_rfl, by kernel_rfl, by kernel_rfl, by kernel_rfl⟩
  | 9, x, h => by
    obtain rfl := Option.some.inj (show some _ = some x from h)
    exact ⟨by decide, by kernel_rfl, by kernel_rfl, by kernel_rfl, by kernel_rfl, by kernel_rfl, by kernel_rfl⟩
  | 10, x, h => by
    obtain rfl := Option.some.inj (show some _ = some x from h)
    exact ⟨by decide, by kernel_rfl, by kernel_rfl, by kernel_rfl, by kernel_rfl, by kernel_rfl, by kernel_rfl⟩
  | k + 11, x, h => by simp at h
theorem flat_tail (A B : List Blks) : B.flatten.Sublist (A ++ B).flatten := by
  rw [List.flatten_append]
  exact List.sublist_append_right _ _
theorem swap_two (A B : List Blks) : (A ++ (B ++ [])).flatten.Perm (B ++ (A ++ [])).flatten := by
  rw [List.append_nil, List.append_nil, List.flatten_append, List.flatten_append]
  exact List.perm_append_comm
theorem text_in {l : List ByteArray} {k : Nat} {x : ByteArray} (h : l[k]? = some x) : (texts l).toArray[0 + k]? = some (.string x) := by
  rw [Nat.zero_add, List.getElem?_toArray]
  exact text_at h
theorem wi1 {z : List Int} (h : z.length = 4194305) : appD ⟨1099511627776, []⟩ nA z = (3, ⟨1099511627776, []⟩) := by
  unfold appD
  rw [if_pos (by kernel_rfl), show inA [] nA = none from rfl]
  show (if 4194304 < z.length then _ else _) = _
  rw [if_pos (by omega)]
theorem wi2 {z : List Int} (h : z.length = 4194304) : appD ⟨1099511627776, []⟩ nA z = (0, ⟨1099511627776, [(nA, z, 0)]⟩) := by
  unfold appD
  rw [if_pos (by kernel_rfl), show inA [] nA = none from rfl]
  show (if 4194304 < z.length then _ else if (1099511627776 : Int) - 0 < z.length then _ else _) = _
  rw [if_neg (by omega), if_neg (by omega)]
  rfl
theorem in1 {z : List Int} {y : Int} {r : List Fa} : inA ((nA, z, y) :: r) nA = some (nA, z, y) := by simp [inA]
theorem wi3 {z : List Int} (h : z.length = 4194304) : appD ⟨1099511627776, [(nA, z, 0)]⟩ nA [1] = (3, ⟨1099511627776, [(nA, z, 0)]⟩) := by
  unfold appD
  rw [if_pos (by kernel_rfl), in1]
  show (if 4194304 < z.length + 1 then _ else _) = _
  rw [if_pos (by omega)]
theorem wi4 {z : List Int} (h : z.length = 4194304) : appD ⟨1099511627776, [(nA, z, 0)]⟩ nA [] = (0, ⟨1099511627776, [(nA, z, 0)]⟩) := by
  unfold appD
  rw [if_pos (by kernel_rfl), in1]
  show (if 4194304 < z.length + 0 then _ else if (1099511627776 : Int) - ((z.length : Int) + 0) < 0 then _ else _) = _
  rw [if_neg (by omega), if_neg (by omega)]
  simp [updA]
theorem wi5 {z : List Int} (h : z.length = 4194304) : appD ⟨1099511627776, [(nA, z, 0)]⟩ nB [1] = (0, ⟨1099511627776, [(nA, z, 0), (nB, [1], 0)]⟩) := by
  have hne : ¬ nA = nB := by decide
  unfold appD
  rw [if_pos (by kernel_rfl), show inA [(nA, z, (0 : Int))] nB = none from inA_none fun f hf => by rw [List.mem_singleton.1 hf]; exact hne]
  show (if 4194304 < 1 then _ else if (1099511627776 : Int) - ((z.length : Int) + 0) < 1 then _ else _) = _
  rw [if_neg (by omega), if_neg (by omega)]
  rfl
theorem wi6 {z : List Int} (h : z.length = 4194304) : sumL [(nA, z, (0 : Int)), (nB, [1], 0)] = 4194305 := by
  show (z.length : Int) + ((1 : Int) + 0) = _
  omega

abbrev f0 : Da := ⟨3, []⟩
abbrev f1 : Da := ⟨3, [(nA, [1, 2, 3], 0)]⟩
abbrev f2 : Da := ⟨3, [(nA, [1, 2, 3], 0), (nB, [], 0)]⟩
abbrev f3 : Da := ⟨3, [(nA, [1, 2, 3], 3), (nB, [], 0)]⟩
abbrev f4 : Da := ⟨3, [(nA, [1, 2, 3], 3)]⟩
abbrev x0 : Da := ⟨100, []⟩
abbrev x1 : Da := ⟨100, [(nA, [1], 0)]⟩
abbrev x2 : Da := ⟨100, [(nA, [1], 0), (nB, [2, 3], 0)]⟩
abbrev x3 : Da := ⟨100, [(nA, [1], 0), (nB, [2, 3], 2)]⟩
abbrev x4 : Da := ⟨100, [(nB, [1], 0)]⟩
abbrev x5 : Da := ⟨100, [(nB, [], 0)]⟩
abbrev y1 : Da := ⟨100, [(nA, [1, 2], 0)]⟩
abbrev y2 : Da := ⟨100, [(nA, [1, 2], 2)]⟩
set_option maxHeartbeats 16000000 in
theorem disk_numbers_c {F : Env} {w : World} (hm : Mem F w []) : Calls Try.prog 4 #[] w (Ret fun v w' => v = .bool true ∧ Mem F w' []) := by
  refine Calls.of_vc Try.func4 rfl Try.ntmps4 rfl ?_
  repeat (first | refine VC.seq ?_ | refine VC.block ?_ | refine VC.skip ?_)
  refine VC.region ?_
  refine VR.pure rfl rfl (p_assignB rfl) ?_
  refine VR.nil ?_
  repeat (first | refine VC.seq ?_ | refine VC.block ?_ | refine VC.skip ?_)
  refine VC.region ?_
  refine VR.call rfl rfl (r_call2 Try.call25 rfl rfl) (repeat_c (k := 30) hm (by decide) (by decide) long_is) ?_
  rintro _ w ⟨rfl, hm⟩
  refine VR.pure rfl rfl (p_assignZ rfl) ?_
  refine VR.nil ?_
  repeat (first | refine VC.seq ?_ | refine VC.block ?_ | refine VC.skip ?_)
  refine VC.region ?_
  refine VR.pure rfl rfl (p_moveZ rfl) ?_
  refine VR.new hm rfl rfl (n_buildSlice1 (vs := [.string _, .string _, .string _, .string _, .string _, .string _, .string _, .string _]) Try.underlying36 inf9 rfl rfl rfl rfl rfl rfl rfl) ?_
  intro b20 w hm
  refine VR.pure rfl rfl (p_assignL rfl) ?_
  refine VR.nil ?_
  repeat (first | refine VC.seq ?_ | refine VC.block ?_ | refine VC.skip ?_)
  refine VC.region ?_
  refine VR.pure rfl rfl (p_moveZ rfl) ?_
  refine VR.pure rfl rfl (p_addS rfl rfl (by decide) long_on) ?_
  refine VR.new hm rfl rfl (n_buildSlice1 (vs := [.string _, .string _, .string _, .string _, .string _, .string _, .string _, .string _, .string _, .string _, .string _]) Try.underlying36 inf9 rfl rfl rfl rfl rfl rfl rfl) ?_
  intro b23 w hm
  refine VR.pure rfl rfl (p_assignL rfl) ?_
  refine VR.nil ?_
  obtain ⟨F1, hu1, hm, hb23⟩ := hm.freeze
  obtain ⟨F2, hu2, hm, hb20⟩ := hm.freeze
  replace hb23 : F2.heap b23 = some (.cells (texts noL).toArray 9 (0, 0)) := hu2.heap _ _ (hb23 _ (.head _))
  replace hb20 : F2.heap b20 = some (.cells (texts yesL).toArray 9 (0, 0)) := hb20 _ (.head _)
  have hu := hu1.trans hu2
  clear hu1 hu2
  repeat (first | refine VC.seq ?_ | refine VC.block ?_ | refine VC.skip ?_)
  refine VC.region ?_
  refine VR.call rfl rfl (r_call1 Try.call11 rfl) (newK hm (by decide) (c := 1073741824) (by decide)) ?_
  rintro _ w ⟨g, m, D0, rfl, ha0, hD0, hm⟩
  refine VR.pure rfl rfl (p_assignP rfl) ?_
  refine VR.nil ?_
  repeat (first | refine VC.seq ?_ | refine VC.block ?_ | refine VC.skip ?_)
  refine VC.region ?_
  refine VR.pure rfl rfl (p_assignI rfl) ?_
  refine VR.nil ?_
  repeat (first | refine VC.seq ?_ | refine VC.block ?_ | refine VC.skip ?_)
  refine VC.loop (σ := Nat × Env × Dk) (fun s => [(2, .slice (some ⟨b20, 0, none⟩) 8 8), (3, .slice (some ⟨b23, 0, none⟩) 11 11), (4, .pointer (some ⟨g, 0, none⟩)), (5, .int .i64 s.1)])
    (fun s w => s.1 ≤ 8 ∧ F2.under s.2.1 ∧ DkOk s.2.2 ∧ s.2.2.abs = yesA s.1 ∧ Mem s.2.1 w (dkB g m s.2.2 ++ [])) (fun s => 8 - s.1) (0, F2, D0) ⟨rfl, rfl, rfl, rfl, trivial⟩ ⟨by omega, Env.under_refl _, hD0, ha0, hm⟩ ?_
  clear hm hD0 ha0
  rintro ⟨k, G, D⟩ A1 w ⟨hk, hg, hD, ha, hm⟩
  dsimp only at hk hg hD ha hm ⊢
  repeat (first | refine VC.seq ?_ | refine VC.block ?_ | refine VC.skip ?_)
  refine VC.region ?_
  refine VR.pure rfl rfl (p_moveI rfl) ?_
  refine VR.pure rfl rfl (p_moveL rfl) ?_
  refine VR.pure rfl rfl (p_len Try.underlying36 rfl) ?_
  refine VR.pure rfl rfl (p_lt rfl rfl) ?_
  refine VR.nil ?_
  repeat (first | refine VC.seq ?_ | refine VC.block ?_ | refine VC.skip ?_)
  refine VC.condD rfl (fun h6 => ?_) (fun h6 => ?_)
  · have hk' : k < 8 := by omega
    obtain ⟨x, hx, _⟩ := get_of (xs := yesL) (k := k) hk'
    obtain ⟨hx1, hx2⟩ := yes_step k x hx
    repeat (first | refine VC.seq ?_ | refine VC.block ?_ | refine VC.skip ?_)
    refine VC.region ?_
    refine VR.pure rfl rfl (p_moveP rfl) ?_
    refine VR.pure rfl rfl (p_moveL rfl) ?_
    refine VR.pure rfl rfl (p_moveI rfl) ?_
    refine VR.pure rfl rfl (p_idx1 Try.underlying36 Try.sizeOf9 rfl rfl hk') ?_
    refine VR.val rfl rfl (r_load (v := .string _) Try.isAgg9 rfl (hm.fix _ _ (hg.heap _ _ hb20)) (text_in hx)) ?_
    refine VR.new hm rfl rfl (n_buildSlice1 (vs := [.int _ _]) Try.underlying22 inf5 rfl rfl rfl rfl rfl rfl rfl) ?_
    intro b36 w hm
    obtain ⟨G1, hu1, hm, hb36⟩ := hm.freeze
    refine VR.call rfl rfl (r_call3 Try.call12 rfl rfl rfl) (appK hm hD ha (by unfold maxLen; omega) (by decide) (Row.lit (cs := bytes [1]) (hb36 _ (.head _))) hx2) ?_
    rintro _ w ⟨D', rfl, ha', hD', hm⟩
    refine VR.pure rfl rfl (p_ne rfl rfl) ?_
    refine VR.nil ?_
    repeat (first | refine VC.seq ?_ | refine VC.block ?_ | refine VC.skip ?_)
    refine VC.condF rfl rfl ?_
    repeat (first | refine VC.seq ?_ | refine VC.block ?_ | refine VC.skip ?_)
    repeat (first | refine VC.seq ?_ | refine VC.block ?_ | refine VC.skip ?_)
    refine VC.region ?_
    refine VR.pure rfl rfl (p_moveI rfl) ?_
    refine VR.pure rfl rfl (p_add64 rfl rfl (by omega)) ?_
    refine VR.pure rfl rfl (p_assignI rfl) ?_
    refine VR.nil ?_
    exact ⟨(k + 1, G1, D'), ⟨rfl, rfl, rfl, rfl, trivial⟩, ⟨by omega, hg.trans hu1, hD', ha', hm⟩, by omega⟩
  · repeat (first | refine VC.seq ?_ | refine VC.block ?_ | refine VC.skip ?_)
    refine VC.exit ?_
    obtain rfl : k = 8 := by omega
    replace hb23 := hg.heap _ _ hb23
    replace hu := hu.trans hg
    clear hb20 hg h6
    repeat (first | refine VC.seq ?_ | refine VC.block ?_ | refine VC.skip ?_)
    refine VC.region ?_
    refine VR.pure rfl rfl (p_assignI rfl) ?_
    refine VR.nil ?_
    repeat (first | refine VC.seq ?_ | refine VC.block ?_ | refine VC.skip ?_)
    refine VC.loop (σ := Nat × Env × Dk) (fun s => [(3, .slice (some ⟨b23, 0, none⟩) 11 11), (4, .pointer (some ⟨g, 0, none⟩)), (6, .int .i64 s.1)])
      (fun s w => s.1 ≤ 11 ∧ G.under s.2.1 ∧ DkOk s.2.2 ∧ s.2.2.abs = yesA 8 ∧ Mem s.2.1 w (dkB g m s.2.2 ++ [])) (fun s => 11 - s.1) (0, G, D) ⟨rfl, rfl, rfl, trivial⟩ ⟨by omega, Env.under_refl _, hD, ha, hm⟩ ?_
    clear hm hD ha
    rintro ⟨k, G2, D⟩ A2 w ⟨hk, hg, hD, ha, hm⟩
    dsimp only at hk hg hD ha hm ⊢
    repeat (first | refine VC.seq ?_ | refine VC.block ?_ | refine VC.skip ?_)
    refine VC.region ?_
    refine VR.pure rfl rfl (p_moveI rfl) ?_
    refine VR.pure rfl rfl (p_moveL rfl) ?_
    refine VR.pure rfl rfl (p_len Try.underlying36 rfl) ?_
    refine VR.pure rfl rfl (p_lt rfl rfl) ?_
    refine VR.nil ?_
    repeat (first | refine VC.seq ?_ | refine VC.block ?_ | refine VC.skip ?_)
    refine VC.condD rfl (fun h11 => ?_) (fun h11 => ?_)
    · have hk' : k < 11 := by omega
      obtain ⟨x, hx, _⟩ := get_of (xs := noL) (k := k) hk'
      have hno := no_step k x hx
      have hsm : x.size ≤ maxLen := by have := hno.small; unfold maxLen; omega
      have hbx := hg.heap _ _ hb23
      repeat (first | refine VC.seq ?_ | refine VC.block ?_ | refine VC.skip ?_)
      refine VC.region ?_
      refine VR.pure rfl rfl (p_moveP rfl) ?_
      refine VR.pure rfl rfl (p_moveL rfl) ?_
      refine VR.pure rfl rfl (p_moveI rfl) ?_
      refine VR.pure rfl rfl (p_idx1 Try.underlying36 Try.sizeOf9 rfl rfl hk') ?_
      refine VR.val rfl rfl (r_load (v := .string _) Try.isAgg9 rfl (hm.fix _ _ hbx) (text_in hx)) ?_
      refine VR.new hm rfl rfl (n_buildSlice1 (vs := [.int _ _]) Try.underlying22 inf5 rfl rfl rfl rfl rfl rfl rfl) ?_
      intro b50 w hm
      obtain ⟨G3, hu3, hm, hb50⟩ := hm.freeze
      replace hbx := hu3.heap _ _ hbx
      refine VR.call rfl rfl (r_call3 Try.call12 rfl rfl rfl) (appK hm hD ha hsm (by decide) (Row.lit (cs := bytes [1]) (hb50 _ (.head _))) hno.app) ?_
      rintro _ w ⟨D1, rfl, ha1, hD1, hm⟩
      refine VR.pure rfl rfl (p_ne rfl rfl) ?_
      refine VR.pure rfl rfl (p_moveB rfl) ?_
      refine VR.knownF 53 rfl rfl ?_
      refine VR.pureG rfl rfl (p_moveP rfl) ?_
      refine VR.pureG rfl rfl (p_moveL rfl) ?_
      refine VR.pureG rfl rfl (p_moveI rfl) ?_
      refine VR.pureG rfl rfl (p_idx1 Try.underlying36 Try.sizeOf9 rfl rfl hk') ?_
      refine VR.valG rfl rfl (r_load (v := .string _) Try.isAgg9 rfl (hm.fix _ _ hbx) (text_in hx)) ?_
      refine VR.callG rfl rfl (r_call3 Try.call18 rfl rfl rfl) (renK hm hD1 ha1 hsm (by decide) hno.ren) ?_
      rintro _ w ⟨D2, rfl, ha2, hD2, hm⟩
      refine VR.pureG rfl rfl (p_ne rfl rfl) ?_
      refine VR.pure rfl rfl (p_pickF rfl rfl) ?_
      refine VR.pure rfl rfl (p_moveB rfl) ?_
      refine VR.knownF 62 rfl rfl ?_
      refine VR.pureG rfl rfl (p_moveP rfl) ?_
      refine VR.pureG rfl rfl (p_moveL rfl) ?_
      refine VR.pureG rfl rfl (p_moveI rfl) ?_
      refine VR.pureG rfl rfl (p_idx1 Try.underlying36 Try.sizeOf9 rfl rfl hk') ?_
      refine VR.valG rfl rfl (r_load (v := .string _) Try.isAgg9 rfl (hm.fix _ _ hbx) (text_in hx)) ?_
      refine VR.callG rfl rfl (r_call3 Try.call18 rfl rfl rfl) (renK hm hD2 ha2 (by decide) hsm hno.ren2) ?_
      rintro _ w ⟨D3, rfl, ha3, hD3, hm⟩
      refine VR.pureG rfl rfl (p_ne rfl rfl) ?_
      refine VR.pure rfl rfl (p_pickF rfl rfl) ?_
      refine VR.pure rfl rfl (p_moveB rfl) ?_
      refine VR.knownF 71 rfl rfl ?_
      refine VR.pureG rfl rfl (p_moveP rfl) ?_
      refine VR.pureG rfl rfl (p_moveL rfl) ?_
      refine VR.pureG rfl rfl (p_moveI rfl) ?_
      refine VR.pureG rfl rfl (p_idx1 Try.underlying36 Try.sizeOf9 rfl rfl hk') ?_
      refine VR.valG rfl rfl (r_load (v := .string _) Try.isAgg9 rfl (hm.fix _ _ hbx) (text_in hx)) ?_
      refine VR.callG rfl rfl (r_call2 Try.call13 rfl rfl) (syncK hm hD3 ha3 hno.sync) ?_
      rintro _ w ⟨D4, rfl, ha4, hD4, hm⟩
      refine VR.pureG rfl rfl (p_ne rfl rfl) ?_
      refine VR.pure rfl rfl (p_pickF rfl rfl) ?_
      refine VR.pure rfl rfl (p_moveB rfl) ?_
      refine VR.knownF 80 rfl rfl ?_
      refine VR.pureG rfl rfl (p_moveP rfl) ?_
      refine VR.pureG rfl rfl (p_moveL rfl) ?_
      refine VR.pureG rfl rfl (p_moveI rfl) ?_
      refine VR.pureG rfl rfl (p_idx1 Try.underlying36 Try.sizeOf9 rfl rfl hk') ?_
      refine VR.valG rfl rfl (r_load (v := .string _) Try.isAgg9 rfl (hm.fix _ _ hbx) (text_in hx)) ?_
      refine VR.callG rfl rfl (r_call2 Try.call23 rfl rfl) (remK hm hD4 ha4 hno.rem) ?_
      rintro _ w ⟨D5, rfl, ha5, hD5, hm⟩
      refine VR.pureG rfl rfl (p_ne rfl rfl) ?_
      refine VR.pure rfl rfl (p_pickF rfl rfl) ?_
      refine VR.pure rfl rfl (p_moveB rfl) ?_
      refine VR.knownF 89 rfl rfl ?_
      refine VR.pureG rfl rfl (p_moveP rfl) ?_
      refine VR.pureG rfl rfl (p_moveL rfl) ?_
      refine VR.pureG rfl rfl (p_moveI rfl) ?_
      refine VR.pureG rfl rfl (p_idx1 Try.underlying36 Try.sizeOf9 rfl rfl hk') ?_
      refine VR.valG rfl rfl (r_load (v := .string _) Try.isAgg9 rfl (hm.fix _ _ hbx) (text_in hx)) ?_
      refine VR.callG rfl rfl (r_call3 Try.call22 rfl rfl rfl) (cutK hm hD5 ha5 hno.cut) ?_
      rintro _ w ⟨D6, rfl, ha6, hD6, hm⟩
      refine VR.pureG rfl rfl (p_ne rfl rfl) ?_
      refine VR.pure rfl rfl (p_pickF rfl rfl) ?_
      refine VR.nil ?_
      repeat (first | refine VC.seq ?_ | refine VC.block ?_ | refine VC.skip ?_)
      refine VC.condF rfl rfl ?_
      repeat (first | refine VC.seq ?_ | refine VC.block ?_ | refine VC.skip ?_)
      repeat (first | refine VC.seq ?_ | refine VC.block ?_ | refine VC.skip ?_)
      refine VC.region ?_
      refine VR.pure rfl rfl (p_moveI rfl) ?_
      refine VR.pure rfl rfl (p_add64 rfl rfl (by omega)) ?_
      refine VR.pure rfl rfl (p_assignI rfl) ?_
      refine VR.nil ?_
      exact ⟨(k + 1, G3, D6), ⟨rfl, rfl, rfl, trivial⟩, ⟨by omega, hg.trans hu3, hD6, ha6, hm⟩, by omega⟩
    · repeat (first | refine VC.seq ?_ | refine VC.block ?_ | refine VC.skip ?_)
      refine VC.exit ?_
      replace hm : Mem G2 w [] := hm.subF (List.nil_sublist _)
      replace hu := hu.trans hg
      clear hb23 hg hD ha h11 hk
      repeat (first | refine VC.seq ?_ | refine VC.block ?_ | refine VC.skip ?_)
      refine VC.region ?_
      refine VR.call rfl rfl (r_call1 Try.call11 rfl) (newK hm (by decide) (c := 3) (by decide)) ?_
      rintro _ w ⟨g7, m7, E0, rfl, ea0, hE0, hm⟩
      refine VR.pure rfl rfl (p_assignP rfl) ?_
      refine VR.nil ?_
      repeat (first | refine VC.seq ?_ | refine VC.block ?_ | refine VC.skip ?_)
      refine VC.region ?_
      refine VR.pure rfl rfl (p_moveP rfl) ?_
      refine VR.new hm rfl rfl (n_buildSlice1 (vs := [.int _ _, .int _ _, .int _ _]) Try.underlying22 inf5 rfl rfl rfl rfl rfl rfl rfl) ?_
      intro b100 w hm
      obtain ⟨H1, hv1, hm, hb100⟩ := hm.freeze
      refine VR.call rfl rfl (r_call3 Try.call12 rfl rfl rfl) (appK hm hE0 ea0 (by decide) (by decide) (Row.lit (cs := bytes [1, 2, 3]) (hb100 _ (.head _))) (d' := f1) (c := 0) (by kernel_rfl)) ?_
      rintro _ w ⟨E1, rfl, ea1, hE1, hm⟩
      refine VR.pure rfl rfl (p_ne rfl rfl) ?_
      refine VR.pure rfl rfl (p_moveB rfl) ?_
      refine VR.knownF 103 rfl rfl ?_
      refine VR.pureG rfl rfl (p_moveP rfl) ?_
      refine VR.newG hm rfl rfl (n_buildSlice1 (vs := [.int _ _]) Try.underlying22 inf5 rfl rfl rfl rfl rfl rfl rfl) ?_
      intro b105 w hm
      obtain ⟨H2, hv2, hm, hb105⟩ := hm.freeze
      refine VR.callG rfl rfl (r_call3 Try.call12 rfl rfl rfl) (appK hm hE1 ea1 (by decide) (by decide) (Row.lit (cs := bytes [1]) (hb105 _ (.head _))) (d' := f1) (c := 5) (by kernel_rfl)) ?_
      rintro _ w ⟨E2, rfl, ea2, hE2, hm⟩
      refine VR.pureG rfl rfl (p_ne rfl rfl) ?_
      refine VR.pure rfl rfl (p_pickF rfl rfl) ?_
      refine VR.pure rfl rfl (p_moveB rfl) ?_
      refine VR.knownF 109 rfl rfl ?_
      refine VR.pureG rfl rfl (p_moveP rfl) ?_
      refine VR.callG rfl rfl (r_call3 Try.call12 rfl rfl rfl) (appK hm hE2 ea2 (by decide) (by decide) (Row.nil _) (b := []) (d' := f2) (c := 0) (by kernel_rfl)) ?_
      rintro _ w ⟨E3, rfl, ea3, hE3, hm⟩
      refine VR.pureG rfl rfl (p_ne rfl rfl) ?_
      refine VR.pure rfl rfl (p_pickF rfl rfl) ?_
      refine VR.pure rfl rfl (p_moveB rfl) ?_
      refine VR.knownF 114 rfl rfl ?_
      refine VR.pureG rfl rfl (p_moveP rfl) ?_
      refine VR.callG rfl rfl (r_call3 Try.call22 rfl rfl rfl) (cutK hm hE3 ea3 (d' := f2) (c := 2) (by kernel_rfl)) ?_
      rintro _ w ⟨E4, rfl, ea4, hE4, hm⟩
      refine VR.pureG rfl rfl (p_ne rfl rfl) ?_
      refine VR.pure rfl rfl (p_pickF rfl rfl) ?_
      refine VR.pure rfl rfl (p_moveB rfl) ?_
      refine VR.knownF 119 rfl rfl ?_
      refine VR.pureG rfl rfl (p_moveP rfl) ?_
      refine VR.callG rfl rfl (r_call3 Try.call22 rfl rfl rfl) (cutK hm hE4 ea4 (d' := f2) (c := 2) (by kernel_rfl)) ?_
      rintro _ w ⟨E5, rfl, ea5, hE5, hm⟩
      refine VR.pureG rfl rfl (p_ne rfl rfl) ?_
      refine VR.pure rfl rfl (p_pickF rfl rfl) ?_
      refine VR.pure rfl rfl (p_moveB rfl) ?_
      refine VR.knownF 124 rfl rfl ?_
      refine VR.pureG rfl rfl (p_moveP rfl) ?_
      refine VR.callG rfl rfl (r_call3 Try.call22 rfl rfl rfl) (cutK hm hE5 ea5 (d' := f3) (c := 0) (by kernel_rfl)) ?_
      rintro _ w ⟨E6, rfl, ea6, hE6, hm⟩
      refine VR.pureG rfl rfl (p_ne rfl rfl) ?_
      refine VR.pure rfl rfl (p_pickF rfl rfl) ?_
      refine VR.pure rfl rfl (p_moveB rfl) ?_
      refine VR.knownF 129 rfl rfl ?_
      refine VR.pureG rfl rfl (p_moveP rfl) ?_
      refine VR.callG rfl rfl (r_call2 Try.call23 rfl rfl) (remK hm hE6 ea6 (d' := f4) (c := 0) (by kernel_rfl)) ?_
      rintro _ w ⟨E7, rfl, ea7, hE7, hm⟩
      refine VR.pureG rfl rfl (p_ne rfl rfl) ?_
      refine VR.pure rfl rfl (p_pickF rfl rfl) ?_
      refine VR.pure rfl rfl (p_moveB rfl) ?_
      refine VR.knownF 134 rfl rfl ?_
      refine VR.pureG rfl rfl (p_moveP rfl) ?_
      refine VR.callG rfl rfl (r_call2 Try.call23 rfl rfl) (remK hm hE7 ea7 (d' := f4) (c := 6) (by kernel_rfl)) ?_
      rintro _ w ⟨E8, rfl, ea8, hE8, hm⟩
      refine VR.pureG rfl rfl (p_ne rfl rfl) ?_
      refine VR.pure rfl rfl (p_pickF rfl rfl) ?_
      refine VR.nil ?_
      repeat (first | refine VC.seq ?_ | refine VC.block ?_ | refine VC.skip ?_)
      refine VC.condF rfl rfl ?_
      replace hm : Mem H2 w [] := hm.subF (List.nil_sublist _)
      replace hu := (hu.trans hv1).trans hv2
      clear hv1 hv2 ea0 ea1 ea2 ea3 ea4 ea5 ea6 ea7 ea8 hE0 hE1 hE2 hE3 hE4 hE5 hE6 hE7 hE8 hb100 hb105
      repeat (first | refine VC.seq ?_ | refine VC.block ?_ | refine VC.skip ?_)
      refine VC.region ?_
      refine VR.call rfl rfl (r_call1 Try.call11 rfl) (newK hm (by decide) (c := 1099511627776) (by decide)) ?_
      rintro _ w ⟨g8, m8, E0, rfl, ea0, hE0, hm⟩
      refine VR.pure rfl rfl (p_assignP rfl) ?_
      refine VR.nil ?_
      repeat (first | refine VC.seq ?_ | refine VC.block ?_ | refine VC.skip ?_)
      refine VC.region ?_
      refine VR.new hm rfl rfl (n_makeSlice (s := 1) (bytes := 1) Try.underlying22 inf5 rfl rfl rfl rfl rfl (by omega) (by omega)) ?_
      intro b140 w hm
      refine VR.pure rfl rfl (p_assignL rfl) ?_
      refine VR.nil ?_
      obtain ⟨H3, hv3, hm, hb140⟩ := hm.freeze
      obtain ⟨zb, hzb, hrb⟩ := made_row (n := 4194304) (hb140 _ (.head _))
      repeat (first | refine VC.seq ?_ | refine VC.block ?_ | refine VC.skip ?_)
      refine VC.region ?_
      refine VR.pure rfl rfl (p_moveP rfl) ?_
      refine VR.new hm rfl rfl (n_makeSlice (s := 1) (bytes := 1) Try.underlying22 inf5 rfl rfl rfl rfl rfl (by omega) (by omega)) ?_
      intro b142 w hm
      obtain ⟨H4, hv4, hm, hb142⟩ := hm.freeze
      obtain ⟨zc, hzc, hrc⟩ := made_row (n := 4194305) (hb142 _ (.head _))
      refine VR.call rfl rfl (r_call3 Try.call12 rfl rfl rfl) (appK hm hE0 ea0 (by decide) (by decide) hrc (wi1 hzc)) ?_
      rintro _ w ⟨E1, rfl, ea1, hE1, hm⟩
      refine VR.pure rfl rfl (p_ne rfl rfl) ?_
      refine VR.pure rfl rfl (p_moveB rfl) ?_
      refine VR.knownF 145 rfl rfl ?_
      refine VR.pureG rfl rfl (p_moveP rfl) ?_
      refine VR.pureG rfl rfl (p_moveL rfl) ?_
      refine VR.callG rfl rfl (r_call3 Try.call12 rfl rfl rfl) (appK hm hE1 ea1 (by decide) (by decide) (hrb.mono hv4.heap) (wi2 hzb)) ?_
      rintro _ w ⟨E2, rfl, ea2, hE2, hm⟩
      refine VR.pureG rfl rfl (p_ne rfl rfl) ?_
      refine VR.pure rfl rfl (p_pickF rfl rfl) ?_
      refine VR.pure rfl rfl (p_moveB rfl) ?_
      refine VR.knownF 151 rfl rfl ?_
      refine VR.pureG rfl rfl (p_moveP rfl) ?_
      refine VR.newG hm rfl rfl (n_buildSlice1 (vs := [.int _ _]) Try.underlying22 inf5 rfl rfl rfl rfl rfl rfl rfl) ?_
      intro b153 w hm
      obtain ⟨H5, hv5, hm, hb153⟩ := hm.freeze
      refine VR.callG rfl rfl (r_call3 Try.call12 rfl rfl rfl) (appK hm hE2 ea2 (by decide) (by decide) (Row.lit (cs := bytes [1]) (hb153 _ (.head _))) (wi3 hzb)) ?_
      rintro _ w ⟨E3, rfl, ea3, hE3, hm⟩
      refine VR.pureG rfl rfl (p_ne rfl rfl) ?_
      refine VR.pure rfl rfl (p_pickF rfl rfl) ?_
      refine VR.pure rfl rfl (p_moveB rfl) ?_
      refine VR.knownF 157 rfl rfl ?_
      refine VR.pureG rfl rfl (p_moveP rfl) ?_
      refine VR.callG rfl rfl (r_call3 Try.call12 rfl rfl rfl) (appK hm hE3 ea3 (by decide) (by decide) (Row.nil _) (b := []) (wi4 hzb)) ?_
      rintro _ w ⟨E4, rfl, ea4, hE4, hm⟩
      refine VR.pureG rfl rfl (p_ne rfl rfl) ?_
      refine VR.pure rfl rfl (p_pickF rfl rfl) ?_
      refine VR.pure rfl rfl (p_moveB rfl) ?_
      refine VR.knownF 162 rfl rfl ?_
      refine VR.pureG rfl rfl (p_moveP rfl) ?_
      refine VR.newG hm rfl rfl (n_buildSlice1 (vs := [.int _ _]) Try.underlying22 inf5 rfl rfl rfl rfl rfl rfl rfl) ?_
      intro b164 w hm
      obtain ⟨H6, hv6, hm, hb164⟩ := hm.freeze
      refine VR.callG rfl rfl (r_call3 Try.call12 rfl rfl rfl) (appK hm hE4 ea4 (by decide) (by decide) (Row.lit (cs := bytes [1]) (hb164 _ (.head _))) (wi5 hzb)) ?_
      rintro _ w ⟨E5, rfl, ea5, hE5, hm⟩
      refine VR.pureG rfl rfl (p_ne rfl rfl) ?_
      refine VR.pure rfl rfl (p_pickF rfl rfl) ?_
      refine VR.pure rfl rfl (p_moveB rfl) ?_
      refine VR.knownF 168 rfl rfl ?_
      refine VR.pureG rfl rfl (p_moveP rfl) ?_
      refine VR.callG rfl rfl (r_call1 Try.call24 rfl) (usedK hm hE5 ea5 (wi6 hzb)) ?_
      rintro _ w ⟨rfl, hm⟩
      refine VR.pureG rfl rfl (p_ne rfl rfl) ?_
      refine VR.pure rfl rfl (p_pickF rfl rfl) ?_
      refine VR.nil ?_
      repeat (first | refine VC.seq ?_ | refine VC.block ?_ | refine VC.skip ?_)
      refine VC.condF rfl rfl ?_
      replace hm : Mem H6 w [] := hm.subF (List.nil_sublist _)
      replace hu := (((hu.trans hv3).trans hv4).trans hv5).trans hv6
      clear hv3 hv4 hv5 hv6 ea0 ea1 ea2 ea3 ea4 ea5 hE0 hE1 hE2 hE3 hE4 hE5 hb140 hb142 hb153 hb164 hrb hrc
      repeat (first | refine VC.seq ?_ | refine VC.block ?_ | refine VC.skip ?_)
      refine VC.region ?_
      refine VR.call rfl rfl (r_call1 Try.call11 rfl) (newK hm (by decide) (c := 0) (by decide)) ?_
      rintro _ w ⟨g10, m10, N0, rfl, na0, hN0, hm⟩
      refine VR.pure rfl rfl (p_assignP rfl) ?_
      refine VR.nil ?_
      repeat (first | refine VC.seq ?_ | refine VC.block ?_ | refine VC.skip ?_)
      refine VC.region ?_
      refine VR.call rfl rfl (r_call1 Try.call11 rfl) (newK hm (by decide) (c := 100) (by decide)) ?_
      rintro _ w ⟨g11, m11, X0, rfl, xa0, hX0, hm⟩
      refine VR.pure rfl rfl (p_assignP rfl) ?_
      refine VR.nil ?_
      repeat (first | refine VC.seq ?_ | refine VC.block ?_ | refine VC.skip ?_)
      refine VC.region ?_
      refine VR.pure rfl rfl (p_moveP rfl) ?_
      refine VR.new hm rfl rfl (n_buildSlice1 (vs := [.int _ _]) Try.underlying22 inf5 rfl rfl rfl rfl rfl rfl rfl) ?_
      intro b176 w hm
      obtain ⟨H7, hv7, hm, hb176⟩ := hm.freeze
      refine VR.call rfl rfl (r_call3 Try.call12 rfl rfl rfl) (appK hm hX0 xa0 (by decide) (by decide) (Row.lit (cs := bytes [1]) (hb176 _ (.head _))) (d' := x1) (c := 0) (by kernel_rfl)) ?_
      rintro _ w ⟨X1, rfl, xa1, hX1, hm⟩
      refine VR.nil ?_
      repeat (first | refine VC.seq ?_ | refine VC.block ?_ | refine VC.skip ?_)
      refine VC.region ?_
      refine VR.pure rfl rfl (p_moveP rfl) ?_
      refine VR.new hm rfl rfl (n_buildSlice1 (vs := [.int _ _, .int _ _]) Try.underlying22 inf5 rfl rfl rfl rfl rfl rfl rfl) ?_
      intro b179 w hm
      obtain ⟨H8, hv8, hm, hb179⟩ := hm.freeze
      refine VR.call rfl rfl (r_call3 Try.call12 rfl rfl rfl) (appK hm hX1 xa1 (by decide) (by decide) (Row.lit (cs := bytes [2, 3]) (hb179 _ (.head _))) (d' := x2) (c := 0) (by kernel_rfl)) ?_
      rintro _ w ⟨X2, rfl, xa2, hX2, hm⟩
      refine VR.nil ?_
      repeat (first | refine VC.seq ?_ | refine VC.block ?_ | refine VC.skip ?_)
      refine VC.region ?_
      refine VR.pure rfl rfl (p_moveP rfl) ?_
      refine VR.call rfl rfl (r_call2 Try.call13 rfl rfl) (syncK hm hX2 xa2 (d' := x3) (c := 0) (by kernel_rfl)) ?_
      rintro _ w ⟨X3, rfl, xa3, hX3, hm⟩
      refine VR.nil ?_
      repeat (first | refine VC.seq ?_ | refine VC.block ?_ | refine VC.skip ?_)
      refine VC.region ?_
      refine VR.pure rfl rfl (p_moveP rfl) ?_
      refine VR.call rfl rfl (r_call3 Try.call18 rfl rfl rfl) (renK hm hX3 xa3 (by decide) (by decide) (d' := x4) (c := 0) (by kernel_rfl)) ?_
      rintro _ w ⟨X4, rfl, xa4, hX4, hm⟩
      refine VR.pure rfl rfl (p_assignI rfl) ?_
      refine VR.nil ?_
      repeat (first | refine VC.seq ?_ | refine VC.block ?_ | refine VC.skip ?_)
      refine VC.region ?_
      refine VR.pure rfl rfl (p_moveP rfl) ?_
      refine VR.call rfl rfl (r_call3 Try.call18 rfl rfl rfl) (renK hm hX4 xa4 (by decide) (by decide) (d' := x4) (c := 0) (by kernel_rfl)) ?_
      rintro _ w ⟨X5, rfl, xa5, hX5, hm⟩
      refine VR.nil ?_
      repeat (first | refine VC.seq ?_ | refine VC.block ?_ | refine VC.skip ?_)
      refine VC.region ?_
      refine VR.pure rfl rfl (p_moveP rfl) ?_
      refine VR.call rfl rfl (r_call2 Try.call15 rfl rfl) (crashK hm hX5 xa5 (d' := x5) (by kernel_rfl)) ?_
      rintro v1 w ⟨X6, xa6, hX6, hm⟩
      refine VR.nil ?_
      repeat (first | refine VC.seq ?_ | refine VC.block ?_ | refine VC.skip ?_)
      refine VC.region ?_
      refine VR.pure rfl rfl (p_moveP rfl) ?_
      refine VR.call rfl rfl (r_call2 Try.call16 rfl rfl) (readK hm hX6 xa6 (l := []) (c := 0) (by kernel_rfl)) ?_
      rintro _ w ⟨A30, k30, q30, H9, rfl, hk30, _, hv9, hr30, hm⟩
      refine VR.pure rfl rfl (p_moveT rfl) ?_
      refine VR.pure rfl rfl (p_extract rfl rfl) ?_
      refine VR.pure rfl rfl (p_extract rfl rfl) ?_
      refine VR.pure rfl rfl (p_assignL rfl) ?_
      refine VR.pure rfl rfl (p_assignI rfl) ?_
      refine VR.nil ?_
      repeat (first | refine VC.seq ?_ | refine VC.block ?_ | refine VC.skip ?_)
      refine VC.region ?_
      refine VR.call rfl rfl (r_call1 Try.call11 rfl) (newK hm (by decide) (c := 100) (by decide)) ?_
      rintro _ w ⟨g15, m15, Y0, rfl, ya0, hY0, hm⟩
      refine VR.pure rfl rfl (p_assignP rfl) ?_
      refine VR.nil ?_
      repeat (first | refine VC.seq ?_ | refine VC.block ?_ | refine VC.skip ?_)
      refine VC.region ?_
      refine VR.pure rfl rfl (p_moveP rfl) ?_
      refine VR.new hm rfl rfl (n_buildSlice1 (vs := [.int _ _, .int _ _]) Try.underlying22 inf5 rfl rfl rfl rfl rfl rfl rfl) ?_
      intro b196 w hm
      obtain ⟨H10, hv10, hm, hb196⟩ := hm.freeze
      refine VR.call rfl rfl (r_call3 Try.call12 rfl rfl rfl) (appK hm hY0 ya0 (by decide) (by decide) (Row.lit (cs := bytes [1, 2]) (hb196 _ (.head _))) (d' := y1) (c := 0) (by kernel_rfl)) ?_
      rintro _ w ⟨Y1, rfl, ya1, hY1, hm⟩
      refine VR.nil ?_
      repeat (first | refine VC.seq ?_ | refine VC.block ?_ | refine VC.skip ?_)
      refine VC.region ?_
      refine VR.pure rfl rfl (p_moveP rfl) ?_
      refine VR.call rfl rfl (r_call2 Try.call15 rfl rfl) (crashK hm hY1 ya1 (d' := y2) (by kernel_rfl)) ?_
      rintro v1 w ⟨Y2, ya2, hY2, hm⟩
      refine VR.nil ?_
      repeat (first | refine VC.seq ?_ | refine VC.block ?_ | refine VC.skip ?_)
      refine VC.region ?_
      refine VR.pure rfl rfl (p_moveP rfl) ?_
      refine VR.call rfl rfl (r_call2 Try.call16 rfl rfl) (readK hm hY2 ya2 (l := [1, 2]) (c := 0) (by kernel_rfl)) ?_
      rintro _ w ⟨A34, k34, q34, H11, rfl, hk34, _, hv11, hr34, hm⟩
      refine VR.pure rfl rfl (p_moveT rfl) ?_
      refine VR.pure rfl rfl (p_extract rfl rfl) ?_
      refine VR.pure rfl rfl (p_extract rfl rfl) ?_
      refine VR.pure rfl rfl (p_assignL rfl) ?_
      refine VR.pure rfl rfl (p_assignI rfl) ?_
      refine VR.nil ?_
      subst hk30 hk34
      replace hm : Mem H11 w (dkB g11 m11 X6 ++ (dkB g10 m10 N0 ++ [])) := hm.subF (flat_tail _ _)
      replace hm : Mem H11 w (dkB g10 m10 N0 ++ (dkB g11 m11 X6 ++ [])) := hm.permF (swap_two _ _)
      repeat (first | refine VC.seq ?_ | refine VC.block ?_ | refine VC.skip ?_)
      refine VC.region ?_
      refine VR.pure rfl rfl (p_moveP rfl) ?_
      refine VR.new hm rfl rfl (n_buildSlice1 (vs := [.int _ _]) Try.underlying22 inf5 rfl rfl rfl rfl rfl rfl rfl) ?_
      intro b206 w hm
      obtain ⟨H12, hv12, hm, hb206⟩ := hm.freeze
      refine VR.call rfl rfl (r_call3 Try.call12 rfl rfl rfl) (appK hm hN0 na0 (by decide) (by decide) (Row.lit (cs := bytes [1]) (hb206 _ (.head _))) (d' := ⟨0, []⟩) (c := 5) (by kernel_rfl)) ?_
      rintro _ w ⟨N1, rfl, na1, hN1, hm⟩
      refine VR.pure rfl rfl (p_eq rfl rfl) ?_
      refine VR.pure rfl rfl (p_moveB rfl) ?_
      refine VR.knownT 209 rfl rfl ?_
      refine VR.pureG rfl rfl (p_moveP rfl) ?_
      refine VR.callG rfl rfl (r_call3 Try.call12 rfl rfl rfl) (appK hm hN1 na1 (by decide) (by decide) (Row.nil _) (b := []) (d' := ⟨0, [(nA, [], 0)]⟩) (c := 0) (by kernel_rfl)) ?_
      rintro _ w ⟨N2, rfl, na2, hN2, hm⟩
      refine VR.pureG rfl rfl (p_eq rfl rfl) ?_
      refine VR.pure rfl rfl (p_pickT rfl rfl) ?_
      refine VR.pure rfl rfl (p_moveB rfl) ?_
      refine VR.knownT 214 rfl rfl ?_
      refine VR.pureG rfl rfl (p_moveI rfl) ?_
      refine VR.pureG rfl rfl (p_eq rfl rfl) ?_
      refine VR.pure rfl rfl (p_pickT rfl rfl) ?_
      refine VR.pure rfl rfl (p_moveB rfl) ?_
      refine VR.knownT 218 rfl rfl ?_
      refine VR.pureG rfl rfl (p_moveL rfl) ?_
      refine VR.pureG rfl rfl (p_len Try.underlying22 rfl) ?_
      refine VR.pureG rfl rfl (p_eq rfl rfl) ?_
      refine VR.pure rfl rfl (p_pickT rfl rfl) ?_
      refine VR.pure rfl rfl (p_moveB rfl) ?_
      refine VR.knownT 223 rfl rfl ?_
      refine VR.pureG rfl rfl (p_moveI rfl) ?_
      refine VR.pureG rfl rfl (p_eq rfl rfl) ?_
      refine VR.pure rfl rfl (p_pickT rfl rfl) ?_
      refine VR.pure rfl rfl (p_moveB rfl) ?_
      refine VR.knownT 227 rfl rfl ?_
      refine VR.pureG rfl rfl (p_moveP rfl) ?_
      replace hm : Mem H12 w (dkB g11 m11 X6 ++ []) := hm.subF (flat_tail _ _)
      refine VR.callG rfl rfl (r_call1 Try.call20 rfl) (listK hm hX6 xa6 (by decide) (sort1 nB)) ?_
      rintro _ w ⟨A24, q24, H13, rfl, hc24, hd24, hv13, hr24, hm⟩
      refine VR.newG hm rfl rfl (n_buildSlice1 (vs := [.string _]) Try.underlying36 inf9 rfl rfl rfl rfl rfl rfl rfl) ?_
      intro b230 w hm
      obtain ⟨H14, hv14, hm, hb230⟩ := hm.freeze
      refine VR.callG rfl rfl (r_call2 Try.call19 rfl rfl) (same_texts_c hm (by decide) (hr24.mono hv14.heap) (Row.lit (cs := texts [nB]) (hb230 _ (.head _)))) ?_
      rintro _ w ⟨rfl, hm⟩
      refine VR.pure rfl rfl (p_pickT rfl rfl) ?_
      refine VR.pure rfl rfl (p_moveB rfl) ?_
      refine VR.knownT 233 rfl (decide_eq_true rfl) ?_
      refine VR.pureG rfl rfl (p_moveL rfl) ?_
      refine VR.newG hm rfl rfl (n_buildSlice1 (vs := [.int _ _, .int _ _]) Try.underlying22 inf5 rfl rfl rfl rfl rfl rfl rfl) ?_
      intro b235 w hm
      obtain ⟨H15, hv15, hm, hb235⟩ := hm.freeze
      refine VR.callG rfl rfl (r_call2 Try.call17 rfl rfl) (same_bytes_c hm (by decide) ((((hr34.mono hv12.heap).mono hv13.heap).mono hv14.heap).mono hv15.heap) (Row.lit (cs := bytes [1, 2]) (hb235 _ (.head _)))) ?_
      rintro _ w ⟨rfl, hm⟩
      refine VR.pure rfl rfl (p_pickT rfl rfl) ?_
      refine VR.pure rfl rfl (p_moveB rfl) ?_
      refine VR.knownT 238 rfl (decide_eq_true rfl) ?_
      refine VR.pureG rfl rfl (p_moveI rfl) ?_
      refine VR.pureG rfl rfl (p_eq rfl rfl) ?_
      refine VR.pure rfl rfl (p_pickT rfl rfl) ?_
      refine VR.pure rfl rfl (p_moveB rfl) ?_
      refine VR.knownT 242 rfl (decide_eq_true rfl) ?_
      refine VR.pure rfl rfl (p_pickT rfl rfl) ?_
      refine VR.pure rfl rfl (p_moveB rfl) ?_
      refine VR.knownT 244 rfl rfl ?_
      refine VR.callG rfl rfl (r_call0 Try.call10) (awake_c hm) ?_
      rintro _ w ⟨rfl, hm⟩
      refine VR.pure rfl rfl (p_pickT rfl rfl) ?_
      refine VR.pure rfl rfl (p_assignB rfl) ?_
      refine VR.nil ?_
      repeat (first | refine VC.seq ?_ | refine VC.block ?_ | refine VC.skip ?_)
      refine VC.ret ⟨_, ResOf.r1 (v := .bool _) rfl rfl, ?_⟩
      exact ⟨rfl, (show Mem H15 w [] from hm.subF (List.nil_sublist _)).shrink ((((((((((hu.trans hv7).trans hv8).trans hv9).trans hv10).trans hv11).trans hv12).trans hv13).trans hv14).trans hv15))⟩
end Go.Bd
namespace Go.Proofs.Ytjohjlhjeommiaa
open Go.Bd Go.ChangeShapes Go.WideShapes

set_option maxRecDepth 100000 in
theorem numbers_lifted (os : Os) (started : os.Started) (H : Type) (enc : TypeId × Value → H) :
    ReturnsInHanded {} Try.checked os 4 .any (Rows.diskNumbersSpec.pre6 enc Try.prog Try.f4 Rows.diskNumbersRow.domain false) (Rows.diskNumbersSpec.post enc Try.prog Try.f4 false true false false) := by
  refine law_frame (C := Try.checked) (tb := 4) (by kernel_rfl) (by kernel_rfl) started (by kernel_rfl) Try.func4 rfl rfl Try.underlying4 (by kernel_rfl) ?_
    (ChangeSpec.witness6 (enc := enc) (C := Try.checked) false ⟨#[], #[], []⟩ 8 (by kernel_rfl) (by kernel_rfl) (by kernel_rfl) (by kernel_rfl)) ?_
  · intro ds hl
    match ds, hl with
    | [], _ => rfl
  · intro W base args ds p hval hA hwt
    replace hA : DataW.TrodAll enc Try.prog W 0 (fun _ => true) true Try.f4.params.toList args.toList ds p := hA
    rw [Try.params4] at hA hval
    replace hwt : (DataW.weightsEach Try.prog [] ds).all (· ≤ reachBytes) = true := hwt
    obtain ⟨hargs, rfl, rfl⟩ := trodAll_nil hA
    obtain rfl : args = #[] := by cases args; simp_all
    exact disk_numbers_c (Mem.of W)

theorem numbers : Rows.DiskNumbersSaid :=
  OpenClaim.holds_of_wide 4 Try.f4 rfl rfl rfl rfl rfl rfl rfl ⟨rfl, rfl, rfl, rfl, rfl⟩ rfl rfl rfl rfl rfl (by kernel_rfl) Try.func4 (by kernel_rfl)
    (of_decide_eq_true (by kernel_rfl)) (by unfold Func.isWrapper; rw [if_neg (of_decide_eq_false (by kernel_rfl))]; exact ⟨rfl, rfl⟩)
    (fun os started H enc _ => numbers_lifted os started H enc)
end Go.Proofs.Ytjohjlhjeommiaa
