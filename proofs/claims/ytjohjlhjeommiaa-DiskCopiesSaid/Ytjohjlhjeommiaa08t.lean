/- Contracts of layer 8: the document's disk: a file removed, put, added to. Conditions: as each states. -/
import Derived.Test.Ytjohjlhjeommiaa08q
namespace Go.Bd
open Go.Proofs
set_option linter.unusedVariables false
set_option maxRecDepth 20000

theorem absR_erase (rs : List Rf) (i : Nat) : absR (rs.eraseIdx i) = (absR rs).eraseIdx i := map_erase Rf.abs rs i
theorem AscN.erase {rs : List Rf} (h : AscN rs) (i : Nat) : AscN (rs.eraseIdx i) := h.sublist (List.eraseIdx_sublist _ _)
theorem asc_ins {rs : List Rf} {f : Rf} {k : Nat} (h : AscN rs) (hk : k ≤ rs.length) (hlt : ∀ j x, j < k → rs[j]? = some x → keyN x.name < keyN f.name) (hgt : ∀ x, rs[k]? = some x → keyN f.name < keyN x.name) : AscN (rs.take k ++ f :: rs.drop k) := by
  have h1 : AscN (rs.take k ++ rs.drop k) := by rw [List.take_append_drop]; exact h
  obtain ⟨ha, hb, hab⟩ := List.pairwise_append.1 h1
  have hd : ∀ x ∈ rs.drop k, keyN f.name < keyN x.name := fun x hx => by
    rcases Nat.lt_or_eq_of_le hk with hk' | rfl
    · rw [List.drop_eq_getElem_cons hk'] at hx hb
      have h0 := hgt _ (List.getElem?_eq_getElem hk')
      rcases List.mem_cons.1 hx with rfl | hx
      · exact h0
      · exact List.lt_trans h0 ((List.pairwise_cons.1 hb).1 x hx)
    · rw [List.drop_length] at hx
      exact absurd hx List.not_mem_nil
  have ht : ∀ x ∈ rs.take k, keyN x.name < keyN f.name := fun x hx => by
    obtain ⟨j, hj, rfl⟩ := List.mem_iff_getElem.1 hx
    rw [List.length_take] at hj
    refine hlt j _ (by omega) ?_
    rw [List.getElem_take, List.getElem?_eq_getElem]
  refine List.pairwise_append.2 ⟨ha, List.pairwise_cons.2 ⟨hd, hb⟩, fun a hma b hmb => ?_⟩
  rcases List.mem_cons.1 hmb with rfl | hmb
  · exact ht a hma
  · exact hab a hma b hmb

section
variable {F : Env} {w : World} {Ls : List Blks} {g : Nat} {room : Int} {rs : List Rf} {s t : ByteArray}
theorem rremove_c (hm : RMem F w g room rs Ls) (hl : rs.length ≤ 1000000) (hasc : AscN rs) :
    Calls Try.prog 60 #[.pointer (some ⟨g, 0, none⟩), .string s] w (Ret (Did F g room Ls (remD ⟨room, absR rs⟩ s))) := by
  have hap := hasc.apart
  obtain ⟨A, c, L, ho, hok, hm⟩ := hm
  refine Calls.of_vc Try.func60 rfl Try.ntmps60 rfl ?_
  repeat (first | refine VC.seq ?_ | refine VC.block ?_ | refine VC.skip ?_)
  refine VC.region ?_
  refine VR.pure rfl rfl (p_assignI rfl) ?_
  refine VR.nil ?_
  repeat (first | refine VC.seq ?_ | refine VC.block ?_ | refine VC.skip ?_)
  refine VC.region ?_
  refine VR.pure rfl rfl (p_moveP rfl) ?_
  refine VR.pure rfl rfl (p_moveZ rfl) ?_
  refine VR.call rfl rfl (r_call2 Try.call63 rfl rfl) (rfind_c (rs := rs) hm.all (hm.plus_at 0 0 rfl) (ho.row (hm.plus_i 1 rfl)) hl) ?_
  rintro _ w ⟨z, rfl, hat, hm'⟩
  replace hm := hm.back0 hm'
  refine VR.pure rfl rfl (p_assignI rfl) ?_
  refine VR.nil ?_
  repeat (first | refine VC.seq ?_ | refine VC.block ?_ | refine VC.skip ?_)
  refine VC.region ?_
  refine VR.pure rfl rfl (p_moveI rfl) ?_
  refine VR.pure rfl rfl (p_lt rfl rfl) ?_
  refine VR.nil ?_
  rcases hat.inA hap with ⟨i, f, hi, hf, rfl, hin, hi', hia⟩ | ⟨hno, rfl, hin⟩
  · have hre : remD ⟨room, absR rs⟩ s = (0, ⟨room, delA (absR rs) s⟩) := by
      unfold remD
      rw [hin]
    rw [hre]
    repeat (first | refine VC.seq ?_ | refine VC.block ?_ | refine VC.skip ?_)
    refine VC.condD rfl (fun h2 => ?_) (fun h2 => ?_)
    · omega
    · repeat (first | refine VC.seq ?_ | refine VC.block ?_ | refine VC.skip ?_)
      refine VC.region ?_
      refine VR.pure rfl rfl (p_moveP rfl) ?_
      refine VR.pure rfl rfl (p_moveI rfl) ?_
      refine VR.call rfl rfl (r_call2 Try.call94 rfl rfl) (rdrop_c ⟨A, c, L, ho, hok, hm⟩ hl hi') ?_
      rintro v2 w hm
      refine VR.nil ?_
      repeat (first | refine VC.seq ?_ | refine VC.block ?_ | refine VC.skip ?_)
      refine VC.region ?_
      refine VR.pure rfl rfl (p_assignI rfl) ?_
      refine VR.nil ?_
      repeat (first | refine VC.seq ?_ | refine VC.block ?_ | refine VC.skip ?_)
      refine VC.ret ⟨_, ResOf.r1 (v := .int _ _) rfl rfl, ?_⟩
      refine ⟨F, rs.eraseIdx i, rfl, List.Perm.of_eq ?_, hasc.erase i, Env.under_refl _, hm⟩
      rw [absR_erase, ← hf, show f.name = f.abs.1 from rfl]
      exact (delA_at hap hia).symm
  · have hre : remD ⟨room, absR rs⟩ s = (6, ⟨room, absR rs⟩) := by
      unfold remD
      rw [hin]
    rw [hre]
    repeat (first | refine VC.seq ?_ | refine VC.block ?_ | refine VC.skip ?_)
    refine VC.condD rfl (fun h2 => ?_) (fun h2 => ?_)
    · repeat (first | refine VC.seq ?_ | refine VC.block ?_ | refine VC.skip ?_)
      refine VC.region ?_
      refine VR.pure rfl rfl (p_assignI rfl) ?_
      refine VR.nil ?_
      repeat (first | refine VC.seq ?_ | refine VC.block ?_ | refine VC.skip ?_)
      refine VC.ret ⟨_, ResOf.r1 (v := .int _ _) rfl rfl, ?_⟩
      exact ⟨F, rs, rfl, List.Perm.refl _, hasc, Env.under_refl _, A, c, L, ho, hok, hm⟩
    · omega

/-- How far a file has been put among the others. -/
def Half (rs : List Rf) (f : Rf) (i : Nat) (d : Bool) (os : List Rf) : Prop :=
  (d = false ∧ os = rs.take i ∧ ∀ j x, j < i → rs[j]? = some x → keyN x.name < keyN f.name) ∨
  (d = true ∧ ∃ k, k < i ∧ os = rs.take k ++ f :: (rs.take i).drop k ∧ (∀ j x, j < k → rs[j]? = some x → keyN x.name < keyN f.name) ∧ ∀ x, rs[k]? = some x → keyN f.name < keyN x.name)
theorem Half.len {rs : List Rf} {f : Rf} {i : Nat} {d : Bool} {os : List Rf} (h : Half rs f i d os) (hi : i ≤ rs.length) : os.length ≤ i + 1 := by
  rcases h with ⟨_, rfl, _⟩ | ⟨_, k, hk, rfl, _⟩
  · rw [List.length_take]
    omega
  · rw [List.length_append, List.length_cons, List.length_drop, List.length_take, List.length_take]
    omega
theorem Half.on {rs : List Rf} {f x : Rf} {i : Nat} {os : List Rf} {d : Bool} (h : Half rs f i d os) (hx : rs[i]? = some x) (hlt : d = false → keyN x.name < keyN f.name) : Half rs f (i + 1) d (os ++ [x]) := by
  rcases h with ⟨rfl, rfl, hno⟩ | ⟨rfl, k, hk, rfl, h1, h2⟩
  · refine .inl ⟨rfl, by rw [List.take_add_one, hx]; rfl, fun j y hj hy => ?_⟩
    rcases Nat.lt_or_eq_of_le (Nat.le_of_lt_succ hj) with hj | rfl
    · exact hno j y hj hy
    · rw [hx] at hy
      obtain rfl := Option.some.inj hy
      exact hlt rfl
  · refine .inr ⟨rfl, k, by omega, ?_, h1, h2⟩
    have hil := (List.getElem?_eq_some_iff.1 hx).1
    have e : (rs.take (i + 1)).drop k = (rs.take i).drop k ++ [x] := by
      rw [List.take_add_one, hx, List.drop_append_of_le_length (by rw [List.length_take]; omega)]
      rfl
    rw [e, List.append_assoc]
    rfl
theorem Half.here {rs : List Rf} {f x : Rf} {i : Nat} {os : List Rf} (h : Half rs f i false os) (hx : rs[i]? = some x) (hlt : keyN f.name < keyN x.name) : Half rs f (i + 1) true (os ++ [f] ++ [x]) := by
  rcases h with ⟨_, rfl, hno⟩ | ⟨h0, _⟩
  · refine .inr ⟨rfl, i, by omega, ?_, hno, fun y hy => ?_⟩
    · have hil := (List.getElem?_eq_some_iff.1 hx).1
      have e : (rs.take (i + 1)).drop i = [x] := by
        rw [List.take_add_one, hx, List.drop_append_of_le_length (by rw [List.length_take]; omega), List.drop_of_length_le (by rw [List.length_take]; omega)]
        rfl
      rw [e, List.append_assoc]
      rfl
    · rw [hx] at hy
      obtain rfl := Option.some.inj hy
      exact hlt
  · cases h0
/-- The file is there, all in all. -/
theorem Half.done {rs : List Rf} {f : Rf} {d : Bool} {os : List Rf} (h : Half rs f rs.length d os) (hasc : AscN rs) : (if d = true then os else os ++ [f]).Perm (rs ++ [f]) ∧ AscN (if d = true then os else os ++ [f]) := by
  rcases h with ⟨rfl, rfl, hno⟩ | ⟨rfl, k, hk, rfl, h1, h2⟩
  · rw [if_neg (by decide), List.take_length]
    refine ⟨List.Perm.refl _, ?_⟩
    have := asc_ins (f := f) hasc (Nat.le_refl _) hno (fun x hx => by rw [List.getElem?_eq_none (Nat.le_refl _)] at hx; cases hx)
    rwa [List.take_length, List.drop_length] at this
  · rw [if_pos rfl, List.take_length]
    refine ⟨?_, asc_ins hasc (by omega) h1 h2⟩
    refine List.perm_middle.trans ?_
    rw [List.take_append_drop]
    exact List.perm_append_comm (l₁ := [f])
theorem Half.mem {rs : List Rf} {f : Rf} {i : Nat} {d : Bool} {os : List Rf} (h : Half rs f i d os) : ∀ x ∈ os, x ∈ rs ∨ x = f := fun x hx => by
  rcases h with ⟨rfl, rfl, _⟩ | ⟨rfl, k, _, rfl, _⟩
  · exact .inl (List.mem_of_mem_take hx)
  · rcases List.mem_append.1 hx with hx | hx
    · exact .inl (List.mem_of_mem_take hx)
    · rcases List.mem_cons.1 hx with rfl | hx
      · exact .inr rfl
      · exact .inl (List.mem_of_mem_take (List.mem_of_mem_drop hx))

set_option maxHeartbeats 4000000 in
theorem rput_c {f : Rf} (hm : RMem F w g room rs Ls) (hl : rs.length ≤ 1000000) (hasc : AscN rs) (hne : ∀ x ∈ rs, x.name ≠ f.name) (hf : RfOk F.heap f) :
    Calls Try.prog 93 #[.pointer (some ⟨g, 0, none⟩), .agg #[.string f.name, .slice f.A f.n f.c, .int .i64 f.sy]] w (Ret fun v w' => ∃ rs', rs'.Perm (rs ++ [f]) ∧ AscN rs' ∧ RMem F w' g room rs' Ls) := by
  obtain ⟨A, c, L, ho, hok, hm⟩ := hm
  refine Calls.of_vc Try.func93 rfl Try.ntmps93 rfl ?_
  repeat (first | refine VC.seq ?_ | refine VC.block ?_ | refine VC.skip ?_)
  refine VC.region ?_
  refine VR.new hm rfl rfl (n_boxG rfl) ?_
  intro bx w hm
  refine VR.nil ?_
  obtain ⟨G1, hu1, hm, hbx⟩ := (show Mem F w ([(bx, .cells #[.string f.name, .slice f.A f.n f.c, .int .i64 f.sy] 112 (0, 0))] :: [(g, rdisk room rs A c)] :: L :: Ls) from hm).freeze
  obtain ⟨G, hu2, hm, hL⟩ := hm.swap.freeze
  replace hbx := hu2.heap _ _ (hbx _ (.head _))
  have hr := ho.row hL
  have hnc := ho.le
  have hu := hu1.trans hu2
  clear hu1 hu2 hL ho
  repeat (first | refine VC.seq ?_ | refine VC.block ?_ | refine VC.skip ?_)
  refine VC.region ?_
  refine VR.pure rfl rfl (p_assignL rfl) ?_
  refine VR.nil ?_
  repeat (first | refine VC.seq ?_ | refine VC.block ?_ | refine VC.skip ?_)
  refine VC.region ?_
  refine VR.pure rfl rfl (p_assignB rfl) ?_
  refine VR.nil ?_
  repeat (first | refine VC.seq ?_ | refine VC.block ?_ | refine VC.skip ?_)
  refine VC.region ?_
  refine VR.pure rfl rfl (p_assignI rfl) ?_
  refine VR.nil ?_
  repeat (first | refine VC.seq ?_ | refine VC.block ?_ | refine VC.skip ?_)
  refine VC.loop (σ := Nat × Bool × List Rf × Option Addr × Nat × Blks) (fun s => [(0, .pointer (some ⟨g, 0, none⟩)), (3, .pointer (some ⟨bx, 0, none⟩)), (4, .slice s.2.2.2.1 s.2.2.1.length s.2.2.2.2.1), (5, .bool s.2.1), (6, .int .i64 s.1)])
    (fun s w => s.1 ≤ rs.length ∧ Half rs f s.1 s.2.1 s.2.2.1 ∧ OwnR s.2.2.1 s.2.2.2.1 s.2.2.2.2.1 s.2.2.2.2.2 ∧ Mem G w (s.2.2.2.2.2 :: [(g, rdisk room rs A c)] :: Ls)) (fun s => rs.length - s.1) (0, false, [], none, 0, []) ⟨rfl, rfl, rfl, rfl, rfl, trivial⟩
    ⟨by omega, .inl ⟨rfl, rfl, by omega⟩, OwnS.nil _ _, hm.nil_⟩ ?_
  clear hm
  rintro ⟨i, d, os, A1, c1, L1⟩ A' w ⟨hi, hh, ho, hm⟩
  dsimp only at hi hh ho hm ⊢
  have hol := hh.len hi
  repeat (first | refine VC.seq ?_ | refine VC.block ?_ | refine VC.skip ?_)
  refine VC.region ?_
  refine VR.pure rfl rfl (p_moveI rfl) ?_
  refine VR.pure rfl rfl (p_moveP rfl) ?_
  refine VR.pure rfl rfl (p_nilCheck rfl) ?_
  refine VR.pure rfl rfl (p_field (fo := 1) Try.underlying109 rfl Try.sizeOf107 rfl rfl rfl) ?_
  refine VR.val rfl rfl (r_load (v := .slice _ _ _) Try.isAgg107 rfl (hm.at_ 1 0 rfl) rfl) ?_
  refine VR.pure rfl rfl (p_len Try.underlying107 rfl) ?_
  refine VR.pure rfl rfl (p_lt rfl rfl) ?_
  refine VR.nil ?_
  repeat (first | refine VC.seq ?_ | refine VC.block ?_ | refine VC.skip ?_)
  refine VC.condD rfl (fun h4 => ?_) (fun h4 => ?_)
  · have hi' : i < rs.length := by omega
    obtain ⟨x, hx, hxm⟩ := get_of (xs := rs) (k := i) hi'
    obtain ⟨b, off, blk, T, fr, rfl, hb, hc⟩ := hr.elem Rf.len (by decide) (by omega)
    repeat (first | refine VC.seq ?_ | refine VC.block ?_ | refine VC.skip ?_)
    refine VC.meet (σ := Unit) (fun _ => [(0, .pointer (some ⟨g, 0, none⟩)), (3, .pointer (some ⟨bx, 0, none⟩)), (4, .slice A1 os.length c1), (5, .bool d), (6, .int .i64 i), (30, .bool (!d && decide (keyN f.name < keyN x.name)))]) (fun _ w => Mem G w (L1 :: [(g, rdisk room rs (some ⟨b, off, none⟩) c)] :: Ls)) ?_ ?_
    · cases d
      · repeat (first | refine VC.seq ?_ | refine VC.block ?_ | refine VC.skip ?_)
        refine VC.loud (Kept G ([(g, rdisk room rs (some ⟨b, off, none⟩) c)] :: [])) [] rfl (by kernel_rfl) (Kept.one hm.drew 1 rfl) ?_
        replace hm := hm.drew
        refine VL.pure rfl rfl rfl (p_moveB rfl) ?_
        refine VL.pure rfl rfl rfl (p_not rfl) ?_
        refine VL.pure rfl rfl rfl (p_moveB rfl) ?_
        refine VL.knownT 18 rfl rfl ?_
        refine VL.pureG rfl rfl rfl (p_field (fo := 0) Try.underlying112 rfl Try.sizeOf9 rfl rfl rfl) ?_
        refine VL.readG rfl rfl rfl (fun w' hw' => r_load (v := .string _) Try.isAgg9 rfl (hw'.fix _ _ hbx) rfl) ?_
        refine VL.pureG rfl rfl rfl (p_moveP rfl) ?_
        refine VL.pureG rfl rfl rfl (p_nilCheck rfl) ?_
        refine VL.pureG rfl rfl rfl (p_field (fo := 1) Try.underlying109 rfl Try.sizeOf107 rfl rfl rfl) ?_
        refine VL.readG rfl rfl rfl (fun w' hw' => r_load (v := .slice _ _ _) Try.isAgg107 rfl (hw'.at_ 0 0 rfl) rfl) ?_
        refine VL.pureG rfl rfl rfl (p_moveI rfl) ?_
        refine VL.pureG rfl rfl rfl (p_idxN Try.underlying107 Try.sizeOf112 rfl rfl hi') ?_
        refine VL.pureG rfl rfl rfl (p_field (fo := 0) Try.underlying112 rfl Try.sizeOf9 rfl rfl rfl) ?_
        refine VL.readG rfl rfl rfl (fun w' hw' => r_load (v := .string _) Try.isAgg9 rfl (hw'.fix _ _ hb) (hc i x hx 0 (by decide))) ?_
        refine VL.pureG rfl rfl rfl (p_ltS rfl rfl) ?_
        refine VL.pure rfl rfl rfl (p_pickT rfl rfl) ?_
        refine VL.nil ?_
        exact ⟨(), ⟨rfl, rfl, rfl, rfl, rfl, rfl, trivial⟩, hm⟩
      · repeat (first | refine VC.seq ?_ | refine VC.block ?_ | refine VC.skip ?_)
        refine VC.loud (Kept G ([(g, rdisk room rs (some ⟨b, off, none⟩) c)] :: [])) [] rfl (by kernel_rfl) (Kept.one hm.drew 1 rfl) ?_
        replace hm := hm.drew
        refine VL.pure rfl rfl rfl (p_moveB rfl) ?_
        refine VL.pure rfl rfl rfl (p_not rfl) ?_
        refine VL.pure rfl rfl rfl (p_moveB rfl) ?_
        refine VL.knownF 18 rfl rfl ?_
        refine VL.pass rfl rfl ?_
        refine VL.pass rfl rfl ?_
        refine VL.pass rfl rfl ?_
        refine VL.pass rfl rfl ?_
        refine VL.pass rfl rfl ?_
        refine VL.pass rfl rfl ?_
        refine VL.pass rfl rfl ?_
        refine VL.pass rfl rfl ?_
        refine VL.pass rfl rfl ?_
        refine VL.pass rfl rfl ?_
        refine VL.pass rfl rfl ?_
        refine VL.pure rfl rfl rfl (p_pickF rfl rfl) ?_
        refine VL.nil ?_
        exact ⟨(), ⟨rfl, rfl, rfl, rfl, rfl, rfl, trivial⟩, hm⟩
    clear hm
    rintro _ A2 w hm
    repeat (first | refine VC.seq ?_ | refine VC.block ?_ | refine VC.skip ?_)
    refine VC.meet (σ := Bool × List Rf × Option Addr × Nat × Blks) (fun s => [(0, .pointer (some ⟨g, 0, none⟩)), (3, .pointer (some ⟨bx, 0, none⟩)), (4, .slice s.2.2.1 s.2.1.length s.2.2.2.1), (5, .bool s.1), (6, .int .i64 i)])
      (fun s w => Half rs f (i + 1) s.1 (s.2.1 ++ [x]) ∧ s.2.1.length ≤ i + 2 ∧ OwnR s.2.1 s.2.2.1 s.2.2.2.1 s.2.2.2.2 ∧ Mem G w (s.2.2.2.2 :: [(g, rdisk room rs (some ⟨b, off, none⟩) c)] :: Ls)) ?_ ?_
    · by_cases hlt : d = false ∧ keyN f.name < keyN x.name
      · obtain ⟨rfl, hlt⟩ := hlt
        repeat (first | refine VC.seq ?_ | refine VC.block ?_ | refine VC.skip ?_)
        refine VC.condT rfl (by rw [decide_eq_true hlt]; rfl) ?_
        repeat (first | refine VC.seq ?_ | refine VC.block ?_ | refine VC.skip ?_)
        refine VC.region ?_
        refine VR.pure rfl rfl (p_moveL rfl) ?_
        refine VR.val rfl rfl (r_loadAgg (vs := [.string f.name, .slice f.A f.n f.c, .int .i64 f.sy]) Try.isAgg112 Try.sizeOf112 rfl (hm.fix _ _ hbx) rfl (agg_at rfl)) ?_
        refine VR.new hm rfl rfl (n_buildSlice (vs := [.agg _]) Try.underlying107 inf112 rfl rfl rfl rfl rfl rfl) ?_
        intro b33 w hm
        replace hm := hm.swap
        refine VR.append (s := 3) (bytes := 48) Try.underlying107 inf112 rfl rfl rfl rfl rfl rfl rfl rfl rfl hm ho (Row.lit (cs := f.cells) (hm.at_ 1 0 rfl)) f.one rfl ⟨by unfold maxLen; omega, by omega⟩ ?_
        intro A3 c3 w L3 ho3 hm
        refine VR.pure rfl rfl (p_assignL rfl) ?_
        refine VR.nil ?_
        repeat (first | refine VC.seq ?_ | refine VC.block ?_ | refine VC.skip ?_)
        refine VC.region ?_
        refine VR.pure rfl rfl (p_assignB rfl) ?_
        refine VR.nil ?_
        refine ⟨(true, os ++ [f], A3, c3, L3), ⟨rfl, rfl, by rw [List.length_append]; rfl, rfl, rfl, trivial⟩, hh.here hx hlt, by rw [List.length_append]; show os.length + 1 ≤ i + 2; omega, ?_, hm.pop2⟩
        show OwnS _ 3 A3 (os ++ [f]).length c3 (rcells (os ++ [f])) L3
        rw [List.length_append, rcells_app]
        have e : rcells [f] = f.cells := List.append_nil _
        rw [e]
        exact ho3
      · repeat (first | refine VC.seq ?_ | refine VC.block ?_ | refine VC.skip ?_)
        refine VC.condF rfl ?_ ?_
        · cases d
          · rw [decide_eq_false (fun h => hlt ⟨rfl, h⟩)]
            rfl
          · rfl
        repeat (first | refine VC.seq ?_ | refine VC.block ?_ | refine VC.skip ?_)
        refine ⟨(d, os, A1, c1, L1), ⟨rfl, rfl, rfl, rfl, rfl, trivial⟩, hh.on hx (fun hd => ?_), by show os.length ≤ i + 2; omega, ho, hm⟩
        exact key_gt (fun h => hlt ⟨hd, h⟩) (Ne.symm (hne x hxm))
    clear hm ho hol hh
    rintro ⟨d, os, A1, c1, L1⟩ A3 w ⟨hh, hol, ho, hm⟩
    dsimp only at hh hol ho hm ⊢
    repeat (first | refine VC.seq ?_ | refine VC.block ?_ | refine VC.skip ?_)
    refine VC.region ?_
    refine VR.pure rfl rfl (p_moveL rfl) ?_
    refine VR.pure rfl rfl (p_moveP rfl) ?_
    refine VR.pure rfl rfl (p_nilCheck rfl) ?_
    refine VR.pure rfl rfl (p_field (fo := 1) Try.underlying109 rfl Try.sizeOf107 rfl rfl rfl) ?_
    refine VR.val rfl rfl (r_load (v := .slice _ _ _) Try.isAgg107 rfl (hm.at_ 1 0 rfl) rfl) ?_
    refine VR.pure rfl rfl (p_moveI rfl) ?_
    refine VR.pure rfl rfl (p_idxN Try.underlying107 Try.sizeOf112 rfl rfl hi') ?_
    refine VR.val rfl rfl (r_loadAgg (vs := [.string x.name, .slice x.A x.n x.c, .int .i64 x.sy]) Try.isAgg112 Try.sizeOf112 rfl (hm.fix _ _ hb) rfl (hc i x hx)) ?_
    refine VR.new hm rfl rfl (n_buildSlice (vs := [.agg _]) Try.underlying107 inf112 rfl rfl rfl rfl rfl rfl) ?_
    intro b8 w hm
    replace hm := hm.swap
    refine VR.append (s := 3) (bytes := 48) Try.underlying107 inf112 rfl rfl rfl rfl rfl rfl rfl rfl rfl hm ho (Row.lit (cs := x.cells) (hm.at_ 1 0 rfl)) x.one rfl ⟨by unfold maxLen; omega, by omega⟩ ?_
    intro A4 c4 w L4 ho4 hm
    refine VR.pure rfl rfl (p_assignL rfl) ?_
    refine VR.nil ?_
    repeat (first | refine VC.seq ?_ | refine VC.block ?_ | refine VC.skip ?_)
    refine VC.region ?_
    refine VR.pure rfl rfl (p_moveI rfl) ?_
    refine VR.pure rfl rfl (p_add64 rfl rfl (by omega)) ?_
    refine VR.pure rfl rfl (p_assignI rfl) ?_
    refine VR.nil ?_
    refine ⟨(i + 1, d, os ++ [x], A4, c4, L4), ⟨rfl, rfl, by rw [List.length_append]; rfl, rfl, rfl, trivial⟩, ⟨by omega, hh, ?_, hm.pop2⟩, by omega⟩
    show OwnS _ 3 A4 (os ++ [x]).length c4 (rcells (os ++ [x])) L4
    rw [List.length_append, rcells_app]
    have e : rcells [x] = x.cells := List.append_nil _
    rw [e]
    exact ho4
  · repeat (first | refine VC.seq ?_ | refine VC.block ?_ | refine VC.skip ?_)
    refine VC.exit ?_
    have hin : i = rs.length := by omega
    subst hin
    obtain ⟨hperm, hasc'⟩ := hh.done hasc
    have hmem := hh.mem
    repeat (first | refine VC.seq ?_ | refine VC.block ?_ | refine VC.skip ?_)
    refine VC.region ?_
    refine VR.pure rfl rfl (p_moveB rfl) ?_
    refine VR.pure rfl rfl (p_not rfl) ?_
    refine VR.nil ?_
    repeat (first | refine VC.seq ?_ | refine VC.block ?_ | refine VC.skip ?_)
    refine VC.meet (σ := Option Addr × Nat × Blks) (fun s => [(0, .pointer (some ⟨g, 0, none⟩)), (4, .slice s.1 (if d = true then os else os ++ [f]).length s.2.1)]) (fun s w => OwnR (if d = true then os else os ++ [f]) s.1 s.2.1 s.2.2 ∧ Mem G w (s.2.2 :: [(g, rdisk room rs A c)] :: Ls)) ?_ ?_
    · cases d
      · repeat (first | refine VC.seq ?_ | refine VC.block ?_ | refine VC.skip ?_)
        refine VC.condT rfl rfl ?_
        repeat (first | refine VC.seq ?_ | refine VC.block ?_ | refine VC.skip ?_)
        refine VC.region ?_
        refine VR.pure rfl rfl (p_moveL rfl) ?_
        refine VR.val rfl rfl (r_loadAgg (vs := [.string f.name, .slice f.A f.n f.c, .int .i64 f.sy]) Try.isAgg112 Try.sizeOf112 rfl (hm.fix _ _ hbx) rfl (agg_at rfl)) ?_
        refine VR.new hm rfl rfl (n_buildSlice (vs := [.agg _]) Try.underlying107 inf112 rfl rfl rfl rfl rfl rfl) ?_
        intro b33 w hm
        replace hm := hm.swap
        refine VR.append (s := 3) (bytes := 48) Try.underlying107 inf112 rfl rfl rfl rfl rfl rfl rfl rfl rfl hm ho (Row.lit (cs := f.cells) (hm.at_ 1 0 rfl)) f.one rfl ⟨by unfold maxLen; omega, by omega⟩ ?_
        intro A3 c3 w L3 ho3 hm
        refine VR.pure rfl rfl (p_assignL rfl) ?_
        refine VR.nil ?_
        refine ⟨(A3, c3, L3), ⟨rfl, by rw [if_neg (by decide), List.length_append]; rfl, trivial⟩, ?_, hm.pop2⟩
        rw [if_neg (by decide)]
        show OwnS _ 3 A3 (os ++ [f]).length c3 (rcells (os ++ [f])) L3
        rw [List.length_append, rcells_app]
        have e : rcells [f] = f.cells := List.append_nil _
        rw [e]
        exact ho3
      · repeat (first | refine VC.seq ?_ | refine VC.block ?_ | refine VC.skip ?_)
        refine VC.condF rfl rfl ?_
        repeat (first | refine VC.seq ?_ | refine VC.block ?_ | refine VC.skip ?_)
        exact ⟨(A1, c1, L1), ⟨rfl, rfl, trivial⟩, ho, hm⟩
    clear hm ho
    rintro ⟨A4, c4, L4⟩ A5 w ⟨ho, hm⟩
    dsimp only at ho hm ⊢
    have hmem2 : ∀ x ∈ (if d = true then os else os ++ [f]), RfOk F.heap x := fun x hx => by
      have h1 : x ∈ rs ∨ x = f := by
        cases d with
        | true => exact hmem x hx
        | false =>
          rcases List.mem_append.1 hx with hx | hx
          · exact hmem x hx
          · exact .inr (List.mem_singleton.1 hx)
      rcases h1 with h1 | rfl
      · exact hok x h1
      · exact hf
    generalize (if d = true then os else os ++ [f]) = rs' at ho hperm hasc' hmem2
    repeat (first | refine VC.seq ?_ | refine VC.block ?_ | refine VC.skip ?_)
    refine VC.region ?_
    refine VR.pure rfl rfl (p_moveP rfl) ?_
    refine VR.pure rfl rfl (p_moveL rfl) ?_
    refine VR.pure rfl rfl (p_nilCheck rfl) ?_
    refine VR.pure rfl rfl (p_field (fo := 1) Try.underlying109 rfl Try.sizeOf107 rfl rfl rfl) ?_
    refine VR.store (cs' := #[.int .i64 room, .slice A4 rs'.length c4]) (v := .slice _ _ _) Try.sizeOf107 rfl rfl rfl rfl rfl hm 1 0 rfl (Nat.ble_eq.mp rfl) rfl ?_
    intro w hm
    refine VR.nil ?_
    exact ⟨_, ResOf.r0 rfl, rs', hperm, hasc', A4, c4, L4, ho, hmem2, hm.swap.shrink hu⟩
end
end Go.Bd
