/- Contracts of layer 20: what a chooser takes at a tick. Conditions: as each states. -/
import Derived.Test.Ytnakbhpgcngofaa20h
import Derived.Test.YtnakbhpgcngofaaSort
namespace Go.Bd
open Go.Proofs
set_option linter.unusedVariables false
set_option maxRecDepth 20000

theorem fields_vote (u v : Vt) (fs : Array Field) (h : Try.prog.underlying 64 = some (.struct fs)) : fieldsEq Try.prog u.cells.toArray v.cells.toArray fs.toList = some (decide (u = v)) := by
  have h1 := Try.underlying64
  rw [h1] at h
  obtain rfl := TypeDesc.struct.inj (Option.some.inj h)
  have h3 := Try.underlying3
  have h22 := Try.underlying22
  have hd : decide (u = v) = (decide (u.l = v.l) && (decide (u.e = v.e) && (decide (u.z = v.z) && true))) := by
    obtain ⟨a, b, c⟩ := u
    obtain ⟨a', b', c'⟩ := v
    rw [Bool.and_true, ← Bool.decide_and, ← Bool.decide_and]
    exact decide_eq_decide.2 (by simp only [Vt.mk.injEq])
  rw [hd]
  simp [fieldsEq, simpleEq, Vt.cells, h3, h22]
def allA (es : List (Int × List Mb)) (ids : List Int) : Bool := decide (0 < es.length) && es.all fun e => quorumE e.1 e.2 ids
section
variable {F : Env} {w : World} {Ls : List Blks}
set_option maxHeartbeats 1000000 in
theorem all2_c {B A : Option Addr} {m d n c : Nat} {es : List En} {ids : List Int} (hm : Mem F w Ls) (hmm : m ≤ maxLen) (hes : ERow F.heap B m es) (hn : n ≤ maxLen) (hr : Row F.heap A n (ids.map (Value.int .i64))) :
    Calls Try.prog 27 #[.slice B m d, .slice A n c] w (Ret fun v w' => v = .bool (allA (es.map En.abs) ids) ∧ Mem F w' Ls) := by
  have hl := hes.len
  unfold maxLen at hmm
  have hall : allA (es.map En.abs) ids = (decide (0 < es.length) && es.all fun e => quorumE e.ver e.ms ids) := by
    unfold allA
    rw [List.length_map, List.all_map]
    rfl
  rw [hall]
  refine Calls.of_vc Try.func27 rfl Try.ntmps27 rfl ?_
  repeat (first | refine VC.seq ?_ | refine VC.block ?_ | refine VC.skip ?_)
  refine VC.region ?_
  refine VR.pure rfl rfl (p_assignB rfl) ?_
  refine VR.nil ?_
  repeat (first | refine VC.seq ?_ | refine VC.block ?_ | refine VC.skip ?_)
  refine VC.region ?_
  refine VR.pure rfl rfl (p_moveL rfl) ?_
  refine VR.pure rfl rfl (p_len Try.underlying23 rfl) ?_
  refine VR.pure rfl rfl (p_moveI rfl) ?_
  refine VR.nil ?_
  repeat (first | refine VC.seq ?_ | refine VC.block ?_ | refine VC.skip ?_)
  refine VC.loop (σ := Nat) (fun k => [(0, .slice B m d), (1, .slice A n c), (7, .slice B m d), (8, .int .i64 m), (9, .int .i64 k)]) (fun k w => Mem F w Ls ∧ k ≤ m ∧ ∀ e ∈ es.take k, quorumE e.ver e.ms ids = true) (fun k => m - k) 0 ⟨rfl, rfl, rfl, rfl, rfl, trivial⟩ ⟨hm, by omega, by simp⟩ ?_
  clear hm
  rintro k A' w ⟨hm, hk, hq⟩
  repeat (first | refine VC.seq ?_ | refine VC.block ?_ | refine VC.skip ?_)
  refine VC.region ?_
  refine VR.pure rfl rfl (p_lt rfl rfl) ?_
  refine VR.nil ?_
  repeat (first | refine VC.seq ?_ | refine VC.block ?_ | refine VC.skip ?_)
  refine VC.condD rfl (fun h => ?_) (fun h => ?_)
  · have hk' : k < m := by omega
    obtain ⟨e, he, hem⟩ := get_of (xs := es) (k := k) (by omega)
    obtain ⟨b, off, blk, T, fr, rfl, hb, hcc⟩ := hes.row.elem En.len (by decide) (by omega)
    have hok := hes.each e hem
    repeat (first | refine VC.seq ?_ | refine VC.block ?_ | refine VC.skip ?_)
    refine VC.region ?_
    refine VR.pure rfl rfl (p_idxN Try.underlying23 Try.sizeOf42 rfl rfl hk') ?_
    refine VR.val rfl rfl (r_loadAgg (vs := [.int _ _, .slice _ _ _]) Try.isAgg42 Try.sizeOf42 rfl (hm.fix _ _ hb) rfl (hcc k e he)) ?_
    refine VR.new hm rfl rfl (n_allocG Try.zeroValue42) ?_
    intro b6 w hm
    refine VR.store (cs' := #[.int .i64 e.ver, .slice e.A e.n e.c]) (v := .agg _) Try.sizeOf42 rfl rfl rfl rfl rfl hm 0 0 rfl (Nat.ble_eq.mp rfl) rfl ?_
    intro w hm
    refine VR.nil ?_
    repeat (first | refine VC.seq ?_ | refine VC.block ?_ | refine VC.skip ?_)
    refine VC.region ?_
    refine VR.val rfl rfl (r_loadAgg (vs := [.int _ _, .slice _ _ _]) Try.isAgg42 Try.sizeOf42 rfl (hm.at_ 0 0 rfl) rfl (agg_at rfl)) ?_
    refine VR.pure rfl rfl (p_moveL rfl) ?_
    refine VR.call rfl rfl (r_call2 Try.call47 rfl rfl) (quorum_c (e := e) hm (Nat.le_trans hok.2.1 hok.2.2) hok.1 hn hr) ?_
    rintro _ w ⟨rfl, hm⟩
    refine VR.pure rfl rfl (p_not rfl) ?_
    refine VR.nil ?_
    by_cases hqe : quorumE e.ver e.ms ids = true
    · repeat (first | refine VC.seq ?_ | refine VC.block ?_ | refine VC.skip ?_)
      refine VC.condF rfl (by rw [hqe]; rfl) ?_
      repeat (first | refine VC.seq ?_ | refine VC.block ?_ | refine VC.skip ?_)
      refine VC.region ?_
      refine VR.pure rfl rfl (p_add64 rfl rfl (by omega)) ?_
      refine VR.pure rfl rfl (p_moveI rfl) ?_
      refine VR.nil ?_
      refine ⟨k + 1, ⟨rfl, rfl, rfl, rfl, rfl, trivial⟩, ⟨hm.pop, by omega, fun x hx => ?_⟩, by omega⟩
      rw [List.take_add_one, he] at hx
      rcases List.mem_append.1 hx with hx | hx
      · exact hq x hx
      · have : x = e := by simpa using hx
        rw [this]
        exact hqe
    · repeat (first | refine VC.seq ?_ | refine VC.block ?_ | refine VC.skip ?_)
      refine VC.condT rfl (by rw [Bool.not_eq_true _ |>.mp hqe]; rfl) ?_
      repeat (first | refine VC.seq ?_ | refine VC.block ?_ | refine VC.skip ?_)
      refine VC.region ?_
      refine VR.pure rfl rfl (p_assignB rfl) ?_
      refine VR.nil ?_
      repeat (first | refine VC.seq ?_ | refine VC.block ?_ | refine VC.skip ?_)
      refine VC.ret ⟨_, ResOf.r1 (v := .bool _) rfl rfl, ?_⟩
      refine ⟨congrArg Value.bool ?_, hm.pop⟩
      have h0 : (es.all fun e => quorumE e.ver e.ms ids) = false := by
        rw [List.all_eq_false]
        exact ⟨e, hem, hqe⟩
      rw [h0, Bool.and_false]
  · repeat (first | refine VC.seq ?_ | refine VC.block ?_ | refine VC.skip ?_)
    refine VC.exit ?_
    rw [List.take_of_length_le (by omega)] at hq
    repeat (first | refine VC.seq ?_ | refine VC.block ?_ | refine VC.skip ?_)
    refine VC.region ?_
    refine VR.pure rfl rfl (p_moveL rfl) ?_
    refine VR.pure rfl rfl (p_len Try.underlying23 rfl) ?_
    refine VR.pure rfl rfl (p_gt rfl rfl) ?_
    refine VR.pure rfl rfl (p_assignB rfl) ?_
    refine VR.nil ?_
    repeat (first | refine VC.seq ?_ | refine VC.block ?_ | refine VC.skip ?_)
    refine VC.ret ⟨_, ResOf.r1 (v := .bool _) rfl rfl, ?_⟩
    refine ⟨congrArg Value.bool ?_, hm⟩
    rw [List.all_eq_true.2 hq, Bool.and_true]
    exact decide_eq_decide.2 (by rw [hl]; omega)

def idsA (a : Ca) : List Int := a.id :: (a.hs.filter fun f => decide (f.2 = a.v)).map (·.1)
def tickA (a : Ca) : (Int × Bool) × Ca :=
  (if a.v.l ≠ 0 ∧ 2 ≤ IntKind.i64.wrap (a.calm + 1) ∧ allA a.es (idsA a) = true then (a.v.l, true) else (0, false), ⟨a.id, a.me, a.es, a.round, a.v, a.hs, IntKind.i64.wrap (a.calm + 1)⟩)
theorem wsum_congr {p q : Mb → Bool} (h : ∀ m, p m = q m) (g : Int) (ms : List Mb) : wsum p g ms = wsum q g ms := by
  have : p = q := funext h
  rw [this]
theorem quorum_same {ver : Int} {ms : List Mb} {xs ys : List Int} (h : ∀ z, z ∈ xs ↔ z ∈ ys) : quorumE ver ms xs = quorumE ver ms ys := by
  unfold quorumE
  have : (fun m : Mb => decide (m.id ∈ xs)) = fun m => decide (m.id ∈ ys) := funext fun m => decide_eq_decide.2 (h m.id)
  rw [this]
theorem all_same {es : List (Int × List Mb)} {xs ys : List Int} (h : ∀ z, z ∈ xs ↔ z ∈ ys) : allA es xs = allA es ys := by
  unfold allA
  have : (fun e : Int × List Mb => quorumE e.1 e.2 xs) = fun e => quorumE e.1 e.2 ys := funext fun e => quorum_same h
  rw [this]
def seenHe (hs : List He) (seen : Array Nat) : List He := hs.filter fun f => decide (f.born ∈ seen.toList)
theorem seenH_push {hs : List He} {seen : Array Nat} {i : Nat} {f : He} (hi : hs[i]? = some f) (hn : (hs.map (·.born)).Nodup) (hf : f.born ∉ seen.toList) (z : He) : z ∈ seenHe hs (seen.push f.born) ↔ z = f ∨ z ∈ seenHe hs seen := by
  unfold seenHe
  simp only [List.mem_filter, decide_eq_true_eq, Array.toList_push, List.mem_append, List.mem_singleton]
  constructor
  · rintro ⟨h1, h2 | h2⟩
    · exact .inr ⟨h1, h2⟩
    · obtain ⟨j, hj, hjz⟩ := List.mem_iff_getElem.1 h1
      obtain ⟨hi', hif⟩ := List.getElem?_eq_some_iff.1 hi
      have hij : j = i := by
        refine (List.getElem_inj (h₀ := by rw [List.length_map]; exact hj) (h₁ := by rw [List.length_map]; exact hi') hn).1 ?_
        rw [List.getElem_map, List.getElem_map, hjz, hif, h2]
      subst hij
      exact .inl (hjz.symm.trans hif)
  · rintro (rfl | ⟨h1, h2⟩)
    · exact ⟨List.mem_of_getElem? hi, .inr rfl⟩
    · exact ⟨h1, .inl h2⟩
def unseen (bs : List Nat) (seen : Array Nat) : Nat := (bs.filter fun b => decide (b ∉ seen.toList)).length
theorem unseen_lt {bs : List Nat} {seen : Array Nat} {b : Nat} (hb : b ∈ bs) (hn : b ∉ seen.toList) : unseen bs (seen.push b) < unseen bs seen := by
  unfold unseen
  have hsub : (bs.filter fun x => decide (x ∉ (seen.push b).toList)).Sublist (bs.filter fun x => decide (x ∉ seen.toList)) := by
    have : (bs.filter fun x => decide (x ∉ (seen.push b).toList)) = (bs.filter fun x => decide (x ∉ seen.toList)).filter fun x => decide (x ≠ b) := by
      rw [List.filter_filter]
      apply List.filter_congr
      intro x _
      simp only [Array.toList_push, List.mem_append, List.mem_singleton, not_or]
      by_cases h1 : x ∈ seen.toList <;> by_cases h2 : x = b <;> simp [h1, h2]
    rw [this]
    exact List.filter_sublist
  have hle := hsub.length_le
  rcases Nat.lt_or_ge (bs.filter fun x => decide (x ∉ (seen.push b).toList)).length (bs.filter fun x => decide (x ∉ seen.toList)).length with h | h
  · exact h
  · have heq := hsub.eq_of_length (Nat.le_antisymm hle h)
    have hmem : b ∈ (bs.filter fun x => decide (x ∉ seen.toList)) := List.mem_filter.2 ⟨hb, decide_eq_true hn⟩
    rw [← heq] at hmem
    have := (List.mem_filter.1 hmem).2
    simp at this
abbrev intsV (l : List Int) : List Value := l.map (Value.int .i64)
theorem intsV_one (l : List Int) : ∀ u ∈ intsV l, u.oneCell' = true := by
  intro u hu
  obtain ⟨x, _, rfl⟩ := List.mem_map.1 hu
  rfl
/-- Memory set aside: what is owned now, as if it were fixed. -/
theorem Mem.aside {F : Env} {w : World} {Ls : List Blks} (h : Mem F w Ls) : ∃ K, F.under K ∧ Mem K w [] ∧ (∀ L ∈ Ls, ∀ p ∈ L, K.heap p.1 = some p.2) ∧ ∀ {w' : World} {As : List Blks}, Mem K w' As → Mem F w' (As ++ Ls) :=
  ⟨F.plus Ls, ⟨rfl, rfl, rfl, h.le⟩, h.all, fun L hL => h.plus_mem hL, fun h' => h.back h'⟩
theorem nodup_lt : ∀ (k : Nat) (l : List Nat), l.Nodup → (∀ x ∈ l, x < k) → l.length ≤ k
  | 0, [], _, _ => Nat.le_refl _
  | 0, x :: r, _, h => absurd (h x (.head _)) (by omega)
  | k + 1, l, hn, h => by
    by_cases hk : k ∈ l
    · have h1 := nodup_lt k (l.erase k) (hn.sublist List.erase_sublist) (fun x hx => by
        have h2 := (hn.mem_erase_iff).1 hx
        have := h x h2.2
        have := h2.1
        omega)
      rw [List.length_erase_of_mem hk] at h1
      omega
    · have h1 := nodup_lt k l hn (fun x hx => by
        have := h x hx
        have : x ≠ k := fun e => hk (e ▸ hx)
        omega)
      omega
theorem seven_ids {hs : List He} (hp : (hs.map He.abs).Pairwise fun x y => x.1 ≠ y.1) (h : ∀ x ∈ hs, 1 ≤ x.id ∧ x.id ≤ 7) : hs.length ≤ 8 := by
  have h1 : (hs.map fun x => x.id.toNat).Nodup := by
    refine List.pairwise_map.2 ?_
    refine (List.pairwise_map.1 hp).imp_of_mem ?_
    intro x y hx hy hne e
    have := h x hx
    have := h y hy
    exact hne (show x.id = y.id by omega)
  have := nodup_lt 8 _ h1 fun z hz => by
    obtain ⟨x, hx, rfl⟩ := List.mem_map.1 hz
    have := h x hx
    omega
  rw [List.length_map] at this
  exact this
set_option maxHeartbeats 4000000 in
theorem tick_c {g m : Nat} {C : Ch} (hm : Mem F w ([(g, C.obj m)] :: [(m, C.map)] :: Ls)) (hC : ChOk F.heap C) :
    Calls Try.prog 17 #[.pointer (some ⟨g, 0, none⟩)] w
      (Ret fun v w' => ∃ C', v = .tuple #[.int .i64 (tickA C.abs).1.1, .bool (tickA C.abs).1.2] ∧ ChOk F.heap C' ∧ C'.abs = (tickA C.abs).2 ∧ Mem F w' ([(g, C'.obj m)] :: [(m, C'.map)] :: Ls)) := by
  have hid := hC.id
  have h8 := seven_ids hC.apart hC.heard
  have hE := hC.ents
  have hrow := hC.row
  have hnn := hC.n
  refine Calls.of_vc Try.func17 rfl Try.ntmps17 rfl ?_
  repeat (first | refine VC.seq ?_ | refine VC.block ?_ | refine VC.skip ?_)
  refine VC.region ?_
  refine VR.pure rfl rfl (p_assignI rfl) ?_
  refine VR.pure rfl rfl (p_assignB rfl) ?_
  refine VR.nil ?_
  repeat (first | refine VC.seq ?_ | refine VC.block ?_ | refine VC.skip ?_)
  refine VC.region ?_
  refine VR.pure rfl rfl (p_moveP rfl) ?_
  refine VR.call rfl rfl (r_call1 Try.call35 rfl) (there_c (id := C.id) hm.all (hm.plus_at 0 0 rfl) rfl) ?_
  rintro _ w ⟨rfl, hm'⟩
  replace hm := hm.back0 hm'
  refine VR.pure rfl rfl (p_notD rfl) ?_
  refine VR.nil ?_
  repeat (first | refine VC.seq ?_ | refine VC.block ?_ | refine VC.skip ?_)
  refine VC.condF rfl (decide_eq_false (not_not_intro (by omega))) ?_
  repeat (first | refine VC.seq ?_ | refine VC.block ?_ | refine VC.skip ?_)
  refine VC.region ?_
  refine VR.pure rfl rfl (p_moveP rfl) ?_
  refine VR.pure rfl rfl (p_nilCheck rfl) ?_
  refine VR.pure rfl rfl (p_field (fo := 10) Try.underlying67 rfl Try.sizeOf3 rfl rfl rfl) ?_
  refine VR.val rfl rfl (r_load (v := .int _ _) Try.isAgg3 rfl (hm.at_ 0 0 rfl) rfl) ?_
  refine VR.pure rfl rfl (p_add rfl rfl) ?_
  refine VR.pure rfl rfl (p_nilCheck rfl) ?_
  refine VR.pure rfl rfl (p_field (fo := 10) Try.underlying67 rfl Try.sizeOf3 rfl rfl rfl) ?_
  refine VR.store (cs' := #[.int .i64 C.id, .int .i64 C.me.l, .int .i64 C.me.e, .int .i64 C.me.z, .slice C.A C.n C.c, .int .i64 C.round, .int .i64 C.v.l, .int .i64 C.v.e, .int .i64 C.v.z, .map (some m), .int .i64 (IntKind.i64.wrap (C.calm + 1))]) (v := .int _ _) Try.sizeOf3 rfl rfl rfl rfl rfl hm 0 0 rfl (Nat.ble_eq.mp rfl) rfl ?_
  intro w hm
  refine VR.nil ?_
  have hC' : ChOk F.heap ⟨C.id, C.me, C.A, C.n, C.c, C.es, C.round, C.v, C.clock, C.hs, IntKind.i64.wrap (C.calm + 1)⟩ := ⟨hC.row, hC.n, hC.ents, hC.id, hC.heard⟩
  generalize hcal : IntKind.i64.wrap (C.calm + 1) = cal at hm hC'
  obtain ⟨K, huK, hm1, hKl, hback⟩ := Mem.aside hm
  have hbg : K.heap g = some (chO C.id C.me C.A C.n C.c C.round C.v (some m) cal) := hKl _ (.head _) _ (.head _)
  have hbm : K.heap m = some C.map := hKl _ (.tail _ (.head _)) _ (.head _)
  clear hKl hm
  repeat (first | refine VC.seq ?_ | refine VC.block ?_ | refine VC.skip ?_)
  refine VC.region ?_
  refine VR.pure rfl rfl (p_moveP rfl) ?_
  refine VR.pure rfl rfl (p_nilCheck rfl) ?_
  refine VR.pure rfl rfl (p_field (fo := 0) Try.underlying67 rfl Try.sizeOf3 rfl rfl rfl) ?_
  refine VR.val rfl rfl (r_load (v := .int _ _) Try.isAgg3 rfl (hm1.fix _ _ hbg) rfl) ?_
  refine VR.new hm1 rfl rfl (n_buildSlice1 (vs := [.int _ _]) Try.underlying70 inf3 rfl rfl rfl rfl rfl rfl rfl) ?_
  intro b4 w hm1
  refine VR.pure rfl rfl (p_assignL rfl) ?_
  refine VR.nil ?_
  have ho0 : OwnS 3 1 (some ⟨b4, 0, none⟩) 1 1 (intsV [C.id]) [(b4, .cells #[.int .i64 C.id] 3 (0, 0))] := OwnS.whole (by decide) rfl
  repeat (first | refine VC.seq ?_ | refine VC.block ?_ | refine VC.skip ?_)
  refine VC.region ?_
  refine VR.pure rfl rfl (p_moveP rfl) ?_
  refine VR.pure rfl rfl (p_nilCheck rfl) ?_
  refine VR.pure rfl rfl (p_field (fo := 9) Try.underlying67 rfl Try.sizeOf65 rfl rfl rfl) ?_
  refine VR.val rfl rfl (r_load (v := .map _) Try.isAgg65 rfl (hm1.fix _ _ hbg) rfl) ?_
  refine VR.rangeMap Try.underlying65 rfl rfl rfl hm1 (hm1.fix _ _ hbm) ?_
  intro r w hm1
  refine VR.nil ?_
  repeat (first | refine VC.seq ?_ | refine VC.block ?_ | refine VC.skip ?_)
  refine VC.loop (σ := Array Nat × Option Addr × Nat × List Int × Blks) (fun s => [(0, .pointer (some ⟨g, 0, none⟩)), (4, .slice s.2.1 s.2.2.2.1.length s.2.2.1), (26, .pointer (some ⟨r, 0, none⟩))])
    (fun s w => Mem K w ([(r, .mapIter (some m) C.clock s.1 C.clock)] :: s.2.2.2.2 :: []) ∧ OwnS 3 1 s.2.1 s.2.2.2.1.length s.2.2.1 (intsV s.2.2.2.1) s.2.2.2.2 ∧ s.2.2.2.1.length + unseen (C.ents.map (·.born)) s.1 ≤ C.hs.length + 1 ∧ ∀ z, z ∈ s.2.2.2.1 ↔ z = C.id ∨ ∃ f ∈ seenHe C.hs s.1, f.v = C.v ∧ f.id = z)
    (fun s => unseen (C.ents.map (·.born)) s.1) (#[], _, 1, [C.id], _) ⟨rfl, rfl, rfl, trivial⟩ ⟨hm1, ho0, ?_, ?_⟩ ?_
  · show 1 + unseen (C.ents.map (·.born)) #[] ≤ C.hs.length + 1
    have := List.length_filter_le (fun b => decide (b ∉ (#[] : Array Nat).toList)) (C.ents.map (·.born))
    rw [List.length_map, List.length_map] at this
    unfold unseen
    omega
  · intro z
    show z ∈ [C.id] ↔ _
    rw [List.mem_singleton]
    constructor
    · exact fun h => .inl h
    · rintro (h | ⟨f, hf, _⟩)
      · exact h
      · have := (List.mem_filter.1 hf).2
        simp at this
  clear hm1 ho0
  rintro ⟨seen, A, c, ns, L⟩ A' w ⟨hm1, ho, hlen, hmem⟩
  dsimp only at hm1 ho hlen hmem ⊢
  by_cases hall : ∀ x ∈ C.ents, x.born ∈ seen.toList
  · repeat (first | refine VC.seq ?_ | refine VC.block ?_ | refine VC.skip ?_)
    refine VC.region ?_
    refine VR.nextEnd rfl rfl rfl hm1 0 0 rfl (hm1.fix _ _ hbm) hE.born (Nat.le_refl _) hall ?_
    refine VR.pure rfl rfl (p_extract rfl rfl) ?_
    refine VR.nil ?_
    repeat (first | refine VC.seq ?_ | refine VC.block ?_ | refine VC.skip ?_)
    refine VC.condF rfl rfl ?_
    repeat (first | refine VC.seq ?_ | refine VC.block ?_ | refine VC.skip ?_)
    refine VC.exit ?_
    have hids : allA (C.es.map En.abs) ns = allA (C.es.map En.abs) (idsA C.abs) := all_same fun z => by
      rw [hmem]
      show _ ↔ z ∈ C.id :: ((C.hs.map He.abs).filter fun f => decide (f.2 = C.v)).map (·.1)
      rw [List.mem_cons]
      refine or_congr_right ?_
      constructor
      · rintro ⟨f, hf, h1, h2⟩
        exact List.mem_map.2 ⟨f.abs, List.mem_filter.2 ⟨List.mem_map_of_mem (List.mem_filter.1 hf).1, decide_eq_true h1⟩, h2⟩
      · intro h
        obtain ⟨x, hx, h2⟩ := List.mem_map.1 h
        obtain ⟨h3, h4⟩ := List.mem_filter.1 hx
        obtain ⟨f, hf, rfl⟩ := List.mem_map.1 h3
        exact ⟨f, List.mem_filter.2 ⟨hf, decide_eq_true (hall f.ent (List.mem_map.2 ⟨f, hf, rfl⟩))⟩, of_decide_eq_true h4, h2⟩
    have hta : tickA C.abs = (if C.v.l ≠ 0 ∧ 2 ≤ cal ∧ allA (C.es.map En.abs) ns = true then (C.v.l, true) else (0, false), ⟨C.id, C.me, C.es.map En.abs, C.round, C.v, C.hs.map He.abs, cal⟩) := by
      unfold tickA
      show (if C.v.l ≠ 0 ∧ 2 ≤ IntKind.i64.wrap (C.calm + 1) ∧ allA (C.es.map En.abs) (idsA C.abs) = true then (C.v.l, true) else (0, false), (⟨C.id, C.me, C.es.map En.abs, C.round, C.v, C.hs.map He.abs, IntKind.i64.wrap (C.calm + 1)⟩ : Ca)) = _
      rw [hcal, hids]
    rw [hta]
    repeat (first | refine VC.seq ?_ | refine VC.block ?_ | refine VC.skip ?_)
    refine VC.region ?_
    refine VR.pure rfl rfl (p_moveP rfl) ?_
    refine VR.pure rfl rfl (p_nilCheck rfl) ?_
    refine VR.pure rfl rfl (p_field (fo := 6) Try.underlying67 rfl Try.sizeOf64 rfl rfl rfl) ?_
    refine VR.pure rfl rfl (p_field (fo := 0) Try.underlying64 rfl Try.sizeOf3 rfl rfl rfl) ?_
    refine VR.val rfl rfl (r_load (v := .int _ _) Try.isAgg3 rfl (hm1.fix _ _ hbg) rfl) ?_
    refine VR.pure rfl rfl (p_eq rfl rfl) ?_
    refine VR.pure rfl rfl (p_moveB rfl) ?_
    refine VR.splitD 48 rfl (fun h6 => ?_) (fun h6 => ?_)
    refine VR.pass rfl rfl ?_
    refine VR.pass rfl rfl ?_
    refine VR.pass rfl rfl ?_
    refine VR.pass rfl rfl ?_
    refine VR.pass rfl rfl ?_
    refine VR.pure rfl rfl (p_pickT rfl rfl) ?_
    refine VR.pure rfl rfl (p_moveB rfl) ?_
    refine VR.pass rfl rfl ?_
    refine VR.pass rfl rfl ?_
    refine VR.pass rfl rfl ?_
    refine VR.pass rfl rfl ?_
    refine VR.pass rfl rfl ?_
    refine VR.pass rfl rfl ?_
    refine VR.pass rfl rfl ?_
    refine VR.pure rfl rfl (p_pickT rfl rfl) ?_
    refine VR.nil ?_
    rotate_left 1
    refine VR.pureG rfl rfl (p_moveP rfl) ?_
    refine VR.pureG rfl rfl (p_nilCheck rfl) ?_
    refine VR.pureG rfl rfl (p_field (fo := 10) Try.underlying67 rfl Try.sizeOf3 rfl rfl rfl) ?_
    refine VR.valG rfl rfl (r_load (v := .int _ _) Try.isAgg3 rfl (hm1.fix _ _ hbg) rfl) ?_
    refine VR.pureG rfl rfl (p_lt rfl rfl) ?_
    refine VR.pure rfl rfl (p_pickF rfl rfl) ?_
    refine VR.pure rfl rfl (p_moveB rfl) ?_
    refine VR.splitD 55 rfl (fun h13 => ?_) (fun h13 => ?_)
    refine VR.pass rfl rfl ?_
    refine VR.pass rfl rfl ?_
    refine VR.pass rfl rfl ?_
    refine VR.pass rfl rfl ?_
    refine VR.pass rfl rfl ?_
    refine VR.pass rfl rfl ?_
    refine VR.pass rfl rfl ?_
    refine VR.pure rfl rfl (p_pickT rfl rfl) ?_
    refine VR.nil ?_
    rotate_left 1
    refine VR.pureG rfl rfl (p_moveP rfl) ?_
    refine VR.pureG rfl rfl (p_nilCheck rfl) ?_
    refine VR.pureG rfl rfl (p_field (fo := 4) Try.underlying67 rfl Try.sizeOf23 rfl rfl rfl) ?_
    refine VR.valG rfl rfl (r_load (v := .slice _ _ _) Try.isAgg23 rfl (hm1.fix _ _ hbg) rfl) ?_
    refine VR.pureG rfl rfl (p_moveL rfl) ?_
    refine VR.callG rfl rfl (r_call2 Try.call27 rfl rfl) (all2_c (es := C.es) (ids := ns) hm1.all (by unfold maxLen; omega) (hrow.mono (Env.le_trans huK.heap hm1.le)) (by unfold maxLen; omega) (ho.row1 (hm1.plus_i 1 rfl))) ?_
    rintro _ w ⟨rfl, hm'⟩
    replace hm1 := hm1.back0 hm'
    refine VR.pureG rfl rfl (p_not rfl) ?_
    refine VR.pure rfl rfl (p_pickF rfl rfl) ?_
    refine VR.nil ?_
    rotate_left 1
    · repeat (first | refine VC.seq ?_ | refine VC.block ?_ | refine VC.skip ?_)
      refine VC.condT rfl rfl ?_
      repeat (first | refine VC.seq ?_ | refine VC.block ?_ | refine VC.skip ?_)
      refine VC.region ?_
      refine VR.pure rfl rfl (p_assignI rfl) ?_
      refine VR.pure rfl rfl (p_assignB rfl) ?_
      refine VR.nil ?_
      repeat (first | refine VC.seq ?_ | refine VC.block ?_ | refine VC.skip ?_)
      refine VC.ret ⟨_, ResOf.r2 (v := .int _ _) (u := .bool _) rfl rfl rfl, ?_⟩
      rw [if_neg (fun h => h.1 h6)]
      exact ⟨_, rfl, hC', rfl, hback (As := []) hm1.none_⟩
    · repeat (first | refine VC.seq ?_ | refine VC.block ?_ | refine VC.skip ?_)
      refine VC.condT rfl rfl ?_
      repeat (first | refine VC.seq ?_ | refine VC.block ?_ | refine VC.skip ?_)
      refine VC.region ?_
      refine VR.pure rfl rfl (p_assignI rfl) ?_
      refine VR.pure rfl rfl (p_assignB rfl) ?_
      refine VR.nil ?_
      repeat (first | refine VC.seq ?_ | refine VC.block ?_ | refine VC.skip ?_)
      refine VC.ret ⟨_, ResOf.r2 (v := .int _ _) (u := .bool _) rfl rfl rfl, ?_⟩
      rw [if_neg (fun h => by omega)]
      exact ⟨_, rfl, hC', rfl, hback (As := []) hm1.none_⟩
    · by_cases hq : allA (C.es.map En.abs) ns = true
      · repeat (first | refine VC.seq ?_ | refine VC.block ?_ | refine VC.skip ?_)
        refine VC.condF rfl (by rw [hq]; rfl) ?_
        repeat (first | refine VC.seq ?_ | refine VC.block ?_ | refine VC.skip ?_)
        refine VC.region ?_
        refine VR.pure rfl rfl (p_moveP rfl) ?_
        refine VR.pure rfl rfl (p_nilCheck rfl) ?_
        refine VR.pure rfl rfl (p_field (fo := 6) Try.underlying67 rfl Try.sizeOf64 rfl rfl rfl) ?_
        refine VR.pure rfl rfl (p_field (fo := 0) Try.underlying64 rfl Try.sizeOf3 rfl rfl rfl) ?_
        refine VR.val rfl rfl (r_load (v := .int _ _) Try.isAgg3 rfl (hm1.fix _ _ hbg) rfl) ?_
        refine VR.pure rfl rfl (p_assignI rfl) ?_
        refine VR.pure rfl rfl (p_assignB rfl) ?_
        refine VR.nil ?_
        repeat (first | refine VC.seq ?_ | refine VC.block ?_ | refine VC.skip ?_)
        refine VC.ret ⟨_, ResOf.r2 (v := .int _ _) (u := .bool _) rfl rfl rfl, ?_⟩
        rw [if_pos ⟨h6, by omega, hq⟩]
        exact ⟨_, rfl, hC', rfl, hback (As := []) hm1.none_⟩
      · repeat (first | refine VC.seq ?_ | refine VC.block ?_ | refine VC.skip ?_)
        refine VC.condT rfl (by rw [Bool.not_eq_true _ |>.mp hq]; rfl) ?_
        repeat (first | refine VC.seq ?_ | refine VC.block ?_ | refine VC.skip ?_)
        refine VC.region ?_
        refine VR.pure rfl rfl (p_assignI rfl) ?_
        refine VR.pure rfl rfl (p_assignB rfl) ?_
        refine VR.nil ?_
        repeat (first | refine VC.seq ?_ | refine VC.block ?_ | refine VC.skip ?_)
        refine VC.ret ⟨_, ResOf.r2 (v := .int _ _) (u := .bool _) rfl rfl rfl, ?_⟩
        rw [if_neg (fun h => hq h.2.2)]
        exact ⟨_, rfl, hC', rfl, hback (As := []) hm1.none_⟩
  · repeat (first | refine VC.seq ?_ | refine VC.block ?_ | refine VC.skip ?_)
    refine VC.region ?_
    refine VR.nextElem rfl rfl rfl hm1 0 0 rfl (hm1.fix _ _ hbm) hE.born (Nat.le_refl _) hall ?_
    intro e he hn w hm1
    refine VR.pure rfl rfl (p_extract rfl rfl) ?_
    refine VR.nil ?_
    repeat (first | refine VC.seq ?_ | refine VC.block ?_ | refine VC.skip ?_)
    refine VC.condT rfl rfl ?_
    obtain ⟨f, hfm, rfl⟩ := List.mem_map.1 he
    obtain ⟨i, hi', hfi⟩ := List.mem_iff_getElem.1 hfm
    have hi : C.hs[i]? = some f := by rw [List.getElem?_eq_getElem hi', hfi]
    repeat (first | refine VC.seq ?_ | refine VC.block ?_ | refine VC.skip ?_)
    refine VC.region ?_
    refine VR.val rfl rfl (r_entry rfl (hm1.at_ 0 0 rfl) (hm1.fix _ _ hbm) he hE.nodup) ?_
    refine VR.pure rfl rfl (p_extract rfl rfl) ?_
    refine VR.pure rfl rfl (p_extract rfl rfl) ?_
    refine VR.new hm1 rfl rfl (n_allocG Try.zeroValue64) ?_
    intro b6 w hm1
    refine VR.pure rfl rfl (p_assignI rfl) ?_
    refine VR.store (cs' := #[.int .i64 f.v.l, .int .i64 f.v.e, .int .i64 f.v.z]) (v := .agg _) Try.sizeOf64 rfl rfl rfl rfl rfl hm1 0 0 rfl (Nat.ble_eq.mp rfl) rfl ?_
    intro w hm1
    refine VR.nil ?_
    simp only [mset, bset] at hm1
    have hst := seenH_push hi (by have := hE.nodup; rwa [List.map_map] at this) hn
    have hul : unseen (C.ents.map (·.born)) (seen.push f.ent.born) < unseen (C.ents.map (·.born)) seen := unseen_lt (List.mem_map.2 ⟨f.ent, he, rfl⟩) hn
    repeat (first | refine VC.seq ?_ | refine VC.block ?_ | refine VC.skip ?_)
    refine VC.loud (Kept K ([(b6, .cells #[.int .i64 f.v.l, .int .i64 f.v.e, .int .i64 f.v.z] 64 (0, 0))] :: [(r, .mapIter (some m) C.clock (seen.push f.ent.born) C.clock)] :: L :: [])) [] rfl (by kernel_rfl) (Kept.here0 hm1.drew) ?_
    replace hm1 := hm1.drew
    refine VL.read rfl rfl rfl (fun w' hw' => r_loadAgg (vs := [.int .i64 f.v.l, .int .i64 f.v.e, .int .i64 f.v.z]) Try.isAgg64 Try.sizeOf64 rfl (hw'.at_ 0 0 rfl) rfl (agg_at rfl)) ?_
    refine VL.pure rfl rfl rfl (p_moveP rfl) ?_
    refine VL.pure rfl rfl rfl (p_nilCheck rfl) ?_
    refine VL.pure rfl rfl rfl (p_field (fo := 6) Try.underlying67 rfl Try.sizeOf64 rfl rfl rfl) ?_
    refine VL.read rfl rfl rfl (fun w' hw' => r_loadAgg (vs := [.int .i64 C.v.l, .int .i64 C.v.e, .int .i64 C.v.z]) Try.isAgg64 Try.sizeOf64 rfl (hw'.fix _ _ hbg) rfl (agg_at rfl)) ?_
    refine VL.pure rfl rfl rfl (p_eqG Try.underlying64 sih64 eqg64 rfl rfl (fields_vote f.v C.v _ Try.underlying64)) ?_
    refine VL.nil ?_
    repeat (first | refine VC.seq ?_ | refine VC.block ?_ | refine VC.skip ?_)
    refine VC.condD rfl (fun h8 => ?_) (fun h8 => ?_)
    · repeat (first | refine VC.seq ?_ | refine VC.block ?_ | refine VC.skip ?_)
      refine VC.region ?_
      refine VR.pure rfl rfl (p_moveL rfl) ?_
      refine VR.pure rfl rfl (p_moveI rfl) ?_
      refine VR.new hm1 rfl rfl (n_buildSlice1 (vs := [.int _ _]) Try.underlying70 inf3 rfl rfl rfl rfl rfl rfl rfl) ?_
      intro b40 w hm1
      replace hm1 := hm1.pull 3 rfl
      refine VR.append (s := 1) (bytes := 8) Try.underlying70 inf3 rfl rfl rfl rfl rfl rfl rfl rfl rfl hm1 ho (Row.lit (cs := [.int .i64 f.id]) (hm1.at_ 1 0 rfl)) (intsV_one [f.id]) rfl ⟨by unfold maxLen; omega, by omega⟩ ?_
      intro A3 c3 w L3 ho3 hm1
      refine VR.pure rfl rfl (p_assignL rfl) ?_
      refine VR.nil ?_
      repeat (first | refine VC.seq ?_ | refine VC.block ?_ | refine VC.skip ?_)
      have ho4 : OwnS 3 1 A3 (ns ++ [f.id]).length c3 (intsV (ns ++ [f.id])) L3 := by
        unfold intsV
        rw [List.map_append, List.length_append]
        exact ho3
      refine ⟨(seen.push f.ent.born, A3, c3, ns ++ [f.id], L3), ⟨rfl, by rw [List.length_append]; rfl, rfl, trivial⟩, ⟨hm1.pop2.pop2.swap, ho4, by rw [List.length_append]; show ns.length + 1 + unseen (C.ents.map (·.born)) (seen.push f.ent.born) ≤ C.hs.length + 1; omega, fun z => ?_⟩, hul⟩
      rw [List.mem_append, hmem, List.mem_singleton]
      constructor
      · rintro ((h | ⟨y, hy, h1, h2⟩) | h)
        · exact .inl h
        · exact .inr ⟨y, (hst y).2 (.inr hy), h1, h2⟩
        · exact .inr ⟨f, (hst f).2 (.inl rfl), h8, h.symm⟩
      · rintro (h | ⟨y, hy, h1, h2⟩)
        · exact .inl (.inl h)
        · rcases (hst y).1 hy with rfl | hy
          · exact .inr h2.symm
          · exact .inl (.inr ⟨y, hy, h1, h2⟩)
    · repeat (first | refine VC.seq ?_ | refine VC.block ?_ | refine VC.skip ?_)
      refine ⟨(seen.push f.ent.born, A, c, ns, L), ⟨rfl, rfl, rfl, trivial⟩, ⟨hm1.pop, ho, by show ns.length + unseen (C.ents.map (·.born)) (seen.push f.ent.born) ≤ C.hs.length + 1; omega, fun z => ?_⟩, hul⟩
      rw [hmem]
      refine or_congr_right ?_
      constructor
      · rintro ⟨y, hy, h1, h2⟩
        exact ⟨y, (hst y).2 (.inr hy), h1, h2⟩
      · rintro ⟨y, hy, h1, h2⟩
        rcases (hst y).1 hy with rfl | hy
        · exact absurd h1 h8
        · exact ⟨y, hy, h1, h2⟩
end
end Go.Bd
