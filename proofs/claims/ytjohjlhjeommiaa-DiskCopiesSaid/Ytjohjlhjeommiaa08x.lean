/- Contracts of layer 8: the document's disk: a file renamed, a copy. Conditions: as each states. -/
import Derived.Test.Ytjohjlhjeommiaa08w
namespace Go.Bd
open Go.Proofs
set_option linter.unusedVariables false
set_option maxRecDepth 20000

section
variable {F : Env} {w : World} {Ls : List Blks} {g : Nat} {room : Int} {rs : List Rf} {s t : ByteArray}
theorem RMem.pop {X : Blks} (h : RMem F w g room rs (X :: Ls)) : RMem F w g room rs Ls := by
  obtain ⟨A, c, L, ho, hok, hm⟩ := h
  refine ⟨A, c, L, ho, hok, hm.subF ?_⟩
  simp only [List.flatten_cons]
  exact ((List.sublist_append_right _ _).append_left _).append_left _
theorem Mem.inW {F : Env} {w : World} {Ls : List Blks} {L : Blks} (h : Mem F w Ls) (hL : L ∈ Ls) : ∀ p ∈ L, w.heap[p.1]? = some p.2 := fun p hp => h.own p (List.mem_flatten.2 ⟨L, hL, hp⟩)
theorem delA_comm (fs : List Fa) (a b : ByteArray) : delA (delA fs a) b = delA (delA fs b) a := by
  unfold delA
  rw [List.filter_filter, List.filter_filter]
  apply List.filter_congr
  intro x _
  exact Bool.and_comm _ _
theorem delA_self (fs : List Fa) (a : ByteArray) : delA (delA fs a) a = delA fs a := by
  unfold delA
  rw [List.filter_filter]
  apply List.filter_congr
  intro x _
  exact Bool.and_self _
theorem At.del {rs : List Rf} {s : ByteArray} {v : Int} (h : At rs s v) (hasc : AscN rs) : ∃ rs', rs'.Sublist rs ∧ absR rs' = delA (absR rs) s ∧ ((∃ i : Nat, v = i ∧ i < rs.length ∧ rs' = rs.eraseIdx i) ∨ (v = -1 ∧ rs' = rs)) := by
  rcases h.inA hasc.apart with ⟨i, f, hi, hf, rfl, hin, hi', hia⟩ | ⟨hno, rfl, hin⟩
  · refine ⟨rs.eraseIdx i, List.eraseIdx_sublist _ _, ?_, .inl ⟨i, rfl, hi', rfl⟩⟩
    rw [absR_erase, ← hf, show f.name = f.abs.1 from rfl]
    exact (delA_at hasc.apart hia).symm
  · exact ⟨rs, List.Sublist.refl _, (delA_none hno).symm, .inr ⟨rfl, rfl⟩⟩
set_option maxHeartbeats 8000000 in
theorem rrename_c (hm : RMem F w g room rs Ls) (hl : rs.length ≤ 1000) (hasc : AscN rs) (hs : s.size ≤ maxLen) (ht : t.size ≤ maxLen) :
    Calls Try.prog 59 #[.pointer (some ⟨g, 0, none⟩), .string s, .string t] w (Ret (Did F g room Ls (renD ⟨room, absR rs⟩ s t))) := by
  have hap := hasc.apart
  obtain ⟨A, c, L, ho, hok, hm⟩ := hm
  refine Calls.of_vc Try.func59 rfl Try.ntmps59 rfl ?_
  repeat (first | refine VC.seq ?_ | refine VC.block ?_ | refine VC.skip ?_)
  refine VC.region ?_
  refine VR.pure rfl rfl (p_assignI rfl) ?_
  refine VR.nil ?_
  by_cases hns : nameOk s = true
  · by_cases hnt : nameOk t = true
    · repeat (first | refine VC.seq ?_ | refine VC.block ?_ | refine VC.skip ?_)
      refine VC.region ?_
      refine VR.pure rfl rfl (p_moveZ rfl) ?_
      refine VR.call rfl rfl (r_call1 Try.call92 rfl) (rname_c hm hs) ?_
      rintro _ w ⟨rfl, hm⟩
      refine VR.pure rfl rfl (p_not rfl) ?_
      refine VR.pure rfl rfl (p_moveB rfl) ?_
      refine VR.knownF 12 rfl (by rw [hns]; rfl) ?_
      refine VR.pureG rfl rfl (p_moveZ rfl) ?_
      refine VR.callG rfl rfl (r_call1 Try.call92 rfl) (rname_c hm ht) ?_
      rintro _ w ⟨rfl, hm⟩
      refine VR.pureG rfl rfl (p_not rfl) ?_
      refine VR.pure rfl rfl (p_pickF rfl rfl) ?_
      refine VR.nil ?_
      repeat (first | refine VC.seq ?_ | refine VC.block ?_ | refine VC.skip ?_)
      refine VC.condF rfl (by rw [hnt]; rfl) ?_
      repeat (first | refine VC.seq ?_ | refine VC.block ?_ | refine VC.skip ?_)
      refine VC.region ?_
      refine VR.pure rfl rfl (p_moveP rfl) ?_
      refine VR.pure rfl rfl (p_moveZ rfl) ?_
      refine VR.call rfl rfl (r_call2 Try.call63 rfl rfl) (rfind_c (rs := rs) hm.all (hm.plus_at 0 0 rfl) (ho.row (hm.plus_i 1 rfl)) (by omega)) ?_
      rintro _ w ⟨z, rfl, hat, hm'⟩
      replace hm := hm.back0 hm'
      refine VR.pure rfl rfl (p_assignI rfl) ?_
      refine VR.nil ?_
      repeat (first | refine VC.seq ?_ | refine VC.block ?_ | refine VC.skip ?_)
      refine VC.region ?_
      refine VR.pure rfl rfl (p_moveI rfl) ?_
      refine VR.pure rfl rfl (p_lt rfl rfl) ?_
      refine VR.nil ?_
      rcases hat.inA hap with ⟨i, f, hi, hf, rfl, hin, hi', hia⟩ | ⟨hno, rfl, hin⟩
      · have hfo := hok f (List.mem_of_getElem? hi)
        have hren : renD ⟨room, absR rs⟩ s t = if s = t then (0, ⟨room, absR rs⟩) else (0, ⟨room, delA (delA (absR rs) t) s ++ [(t, f.l, f.sy)]⟩) := by
          unfold renD
          rw [if_pos ⟨hns, hnt⟩]
          show (match inA (absR rs) s with | some f => _ | none => _) = _
          rw [hin]
          rfl
        rw [hren]
        obtain ⟨gl, cur, rfl, rfl⟩ := ho.lit hi'
        obtain ⟨hcell, hsz⟩ := ho.cell hi
        repeat (first | refine VC.seq ?_ | refine VC.block ?_ | refine VC.skip ?_)
        refine VC.condD rfl (fun h4 => ?_) (fun h4 => ?_)
        · omega
        · repeat (first | refine VC.seq ?_ | refine VC.block ?_ | refine VC.skip ?_)
          refine VC.region ?_
          refine VR.pure rfl rfl (p_moveP rfl) ?_
          refine VR.pure rfl rfl (p_nilCheck rfl) ?_
          refine VR.pure rfl rfl (p_field (fo := 1) Try.underlying109 rfl Try.sizeOf107 rfl rfl rfl) ?_
          refine VR.val rfl rfl (r_load (v := .slice _ _ _) Try.isAgg107 rfl (hm.at_ 0 0 rfl) rfl) ?_
          refine VR.pure rfl rfl (p_moveI rfl) ?_
          refine VR.pure rfl rfl (p_idxN Try.underlying107 Try.sizeOf112 rfl rfl hi') ?_
          refine VR.val rfl rfl (r_loadAgg (vs := [.string f.name, .slice f.A f.n f.c, .int .i64 f.sy]) Try.isAgg112 Try.sizeOf112 rfl (hm.at_ 1 0 rfl) rfl hcell) ?_
          refine VR.new hm rfl rfl (n_allocG Try.zeroValue112) ?_
          intro b8 w hm
          refine VR.store (cs' := #[.string f.name, .slice f.A f.n f.c, .int .i64 f.sy]) (v := .agg _) Try.sizeOf112 rfl rfl rfl rfl rfl hm 0 0 rfl (Nat.ble_eq.mp rfl) rfl ?_
          intro w hm
          refine VR.nil ?_
          replace hm := (show Mem F w ([(b8, .cells #[.string f.name, .slice f.A f.n f.c, .int .i64 f.sy] 112 (0, 0))] :: [(g, rdisk room rs (some ⟨gl, 0, none⟩) c)] :: [(gl, .cells cur 112 (0, 0))] :: Ls) from hm)
          replace hm := (hm.pull 2 rfl).pull 2 rfl
          repeat (first | refine VC.seq ?_ | refine VC.block ?_ | refine VC.skip ?_)
          refine VC.region ?_
          refine VR.pure rfl rfl (p_moveP rfl) ?_
          refine VR.pure rfl rfl (p_moveI rfl) ?_
          refine VR.call rfl rfl (r_call2 Try.call94 rfl rfl) (rdrop_c (rs := rs) ⟨_, _, _, ho, hok, hm⟩ (by omega) hi') ?_
          rintro v2 w hm
          refine VR.nil ?_
          have hasc1 := hasc.erase i
          have hl1 : (rs.eraseIdx i).length ≤ 1000 := Nat.le_trans (List.eraseIdx_sublist _ _).length_le hl
          have habs1 : absR (rs.eraseIdx i) = delA (absR rs) s := by
            rw [absR_erase, ← hf, show f.name = f.abs.1 from rfl]
            exact (delA_at hap hia).symm
          have hperm1 : (rs.eraseIdx i ++ [f]).Perm rs := (List.perm_append_comm (l₂ := [f])).trans (perm_out hi).symm
          generalize rs.eraseIdx i = ys at hm hasc1 hl1 habs1 hperm1
          obtain ⟨A2, c2, L2, ho2, hok2, hm⟩ := hm
          repeat (first | refine VC.seq ?_ | refine VC.block ?_ | refine VC.skip ?_)
          refine VC.region ?_
          refine VR.pure rfl rfl (p_moveP rfl) ?_
          refine VR.pure rfl rfl (p_moveZ rfl) ?_
          refine VR.call rfl rfl (r_call2 Try.call63 rfl rfl) (rfind_c (rs := ys) hm.all (hm.plus_at 0 0 rfl) (ho2.row (hm.plus_i 1 rfl)) (by omega)) ?_
          rintro _ w ⟨z, rfl, hat2, hm'⟩
          replace hm := hm.back0 hm'
          refine VR.pure rfl rfl (p_assignI rfl) ?_
          refine VR.nil ?_
          obtain ⟨zs, hsub, habs2, hcase⟩ := hat2.del hasc1
          repeat (first | refine VC.seq ?_ | refine VC.block ?_ | refine VC.skip ?_)
          refine VC.region ?_
          refine VR.pure rfl rfl (p_moveI rfl) ?_
          refine VR.pure rfl rfl (p_ge rfl rfl) ?_
          refine VR.nil ?_
          repeat (first | refine VC.seq ?_ | refine VC.block ?_ | refine VC.skip ?_)
          refine VC.meet (σ := Unit) (fun _ => [(0, .pointer (some ⟨g, 0, none⟩)), (2, .string t), (8, .pointer (some ⟨b8, 0, none⟩))]) (fun _ w => RMem F w g room zs ([(b8, .cells #[.string f.name, .slice f.A f.n f.c, .int .i64 f.sy] 112 (0, 0))] :: Ls)) ?_ ?_
          · rcases hcase with ⟨j, rfl, hj, rfl⟩ | ⟨rfl, rfl⟩
            · repeat (first | refine VC.seq ?_ | refine VC.block ?_ | refine VC.skip ?_)
              refine VC.condD rfl (fun h9 => ?_) (fun h9 => ?_)
              · repeat (first | refine VC.seq ?_ | refine VC.block ?_ | refine VC.skip ?_)
                refine VC.region ?_
                refine VR.pure rfl rfl (p_moveP rfl) ?_
                refine VR.pure rfl rfl (p_moveI rfl) ?_
                refine VR.call rfl rfl (r_call2 Try.call94 rfl rfl) (rdrop_c (rs := ys) ⟨_, _, _, ho2, hok2, hm⟩ (by omega) hj) ?_
                rintro v2 w hm
                refine VR.nil ?_
                exact ⟨(), ⟨rfl, rfl, rfl, trivial⟩, hm⟩
              · omega
            · repeat (first | refine VC.seq ?_ | refine VC.block ?_ | refine VC.skip ?_)
              refine VC.condD rfl (fun h9 => ?_) (fun h9 => ?_)
              · omega
              · repeat (first | refine VC.seq ?_ | refine VC.block ?_ | refine VC.skip ?_)
                exact ⟨(), ⟨rfl, rfl, rfl, trivial⟩, _, _, _, ho2, hok2, hm⟩
          clear hm
          rintro _ A5 w ⟨A3, c3, L3, ho3, hok3, hm⟩
          have hl3 : zs.length ≤ 1000 := Nat.le_trans hsub.length_le hl1
          have hasc3 : AscN zs := hasc1.sublist hsub
          have hne3 : ∀ x ∈ zs, x.name ≠ t := fun x hx e => by
            have h1 : x.abs ∈ absR zs := List.mem_map.2 ⟨x, hx, rfl⟩
            rw [habs2] at h1
            exact of_decide_eq_true (List.mem_filter.1 h1).2 e
          repeat (first | refine VC.seq ?_ | refine VC.block ?_ | refine VC.skip ?_)
          refine VC.region ?_
          refine VR.pure rfl rfl (p_moveZ rfl) ?_
          refine VR.pure rfl rfl (p_field (fo := 0) Try.underlying112 rfl Try.sizeOf9 rfl rfl rfl) ?_
          refine VR.store (cs' := #[.string t, .slice f.A f.n f.c, .int .i64 f.sy]) (v := .string _) Try.sizeOf9 rfl rfl rfl rfl rfl hm 2 0 rfl (Nat.ble_eq.mp rfl) rfl ?_
          intro w hm
          refine VR.nil ?_
          repeat (first | refine VC.seq ?_ | refine VC.block ?_ | refine VC.skip ?_)
          refine VC.region ?_
          refine VR.pure rfl rfl (p_moveP rfl) ?_
          refine VR.val rfl rfl (r_loadAgg (vs := [.string t, .slice f.A f.n f.c, .int .i64 f.sy]) Try.isAgg112 Try.sizeOf112 rfl (hm.at_ 2 0 rfl) rfl (agg_at rfl)) ?_
          refine VR.call rfl rfl (r_call2 Try.call93 rfl rfl) (rput_c (f := { f with name := t }) ⟨A3, c3, L3, ho3, hok3, hm⟩ (by omega) hasc3 hne3 ⟨hfo.row, hfo.le, hfo.sy⟩) ?_
          rintro v2 w ⟨rs', hperm, hasc', hm⟩
          refine VR.nil ?_
          repeat (first | refine VC.seq ?_ | refine VC.block ?_ | refine VC.skip ?_)
          refine VC.region ?_
          refine VR.pure rfl rfl (p_assignI rfl) ?_
          refine VR.nil ?_
          repeat (first | refine VC.seq ?_ | refine VC.block ?_ | refine VC.skip ?_)
          refine VC.ret ⟨_, ResOf.r1 (v := .int _ _) rfl rfl, ?_⟩
          have hp1 : (absR rs').Perm (delA (delA (absR rs) s) t ++ [(t, f.l, f.sy)]) := by
            rw [← habs1, ← habs2]
            exact (hperm.map Rf.abs).trans (List.Perm.of_eq (List.map_append ..))
          by_cases hst : s = t
          · subst hst
            rw [if_pos rfl]
            refine ⟨F, rs', rfl, ?_, hasc', Env.under_refl _, hm.pop⟩
            rw [delA_self, ← habs1] at hp1
            refine hp1.trans ?_
            have h2 := hperm1.map Rf.abs
            rw [List.map_append] at h2
            refine List.Perm.trans (List.Perm.of_eq ?_) h2
            show _ = absR ys ++ [(f.name, f.l, f.sy)]
            rw [hf]
          · rw [if_neg hst]
            refine ⟨F, rs', rfl, ?_, hasc', Env.under_refl _, hm.pop⟩
            rw [delA_comm (absR rs) t s]
            exact hp1
      · have hren : renD ⟨room, absR rs⟩ s t = (6, ⟨room, absR rs⟩) := by
          unfold renD
          rw [if_pos ⟨hns, hnt⟩]
          show (match inA (absR rs) s with | some f => _ | none => _) = _
          rw [hin]
        rw [hren]
        repeat (first | refine VC.seq ?_ | refine VC.block ?_ | refine VC.skip ?_)
        refine VC.condD rfl (fun h4 => ?_) (fun h4 => ?_)
        · repeat (first | refine VC.seq ?_ | refine VC.block ?_ | refine VC.skip ?_)
          refine VC.region ?_
          refine VR.pure rfl rfl (p_assignI rfl) ?_
          refine VR.nil ?_
          repeat (first | refine VC.seq ?_ | refine VC.block ?_ | refine VC.skip ?_)
          refine VC.ret ⟨_, ResOf.r1 (v := .int _ _) rfl rfl, ?_⟩
          exact ⟨F, rs, rfl, List.Perm.refl _, hasc, Env.under_refl _, A, c, L, ho, hok, hm⟩
        · omega
    · have hnt' : nameOk t = false := by simpa using hnt
      have hren : renD ⟨room, absR rs⟩ s t = (2, ⟨room, absR rs⟩) := by
        unfold renD
        rw [if_neg (fun h => hnt h.2)]
      rw [hren]
      repeat (first | refine VC.seq ?_ | refine VC.block ?_ | refine VC.skip ?_)
      refine VC.region ?_
      refine VR.pure rfl rfl (p_moveZ rfl) ?_
      refine VR.call rfl rfl (r_call1 Try.call92 rfl) (rname_c hm hs) ?_
      rintro _ w ⟨rfl, hm⟩
      refine VR.pure rfl rfl (p_not rfl) ?_
      refine VR.pure rfl rfl (p_moveB rfl) ?_
      refine VR.knownF 12 rfl (by rw [hns]; rfl) ?_
      refine VR.pureG rfl rfl (p_moveZ rfl) ?_
      refine VR.callG rfl rfl (r_call1 Try.call92 rfl) (rname_c hm ht) ?_
      rintro _ w ⟨rfl, hm⟩
      refine VR.pureG rfl rfl (p_not rfl) ?_
      refine VR.pure rfl rfl (p_pickF rfl rfl) ?_
      refine VR.nil ?_
      repeat (first | refine VC.seq ?_ | refine VC.block ?_ | refine VC.skip ?_)
      refine VC.condT rfl (by rw [hnt']; rfl) ?_
      repeat (first | refine VC.seq ?_ | refine VC.block ?_ | refine VC.skip ?_)
      refine VC.region ?_
      refine VR.pure rfl rfl (p_assignI rfl) ?_
      refine VR.nil ?_
      repeat (first | refine VC.seq ?_ | refine VC.block ?_ | refine VC.skip ?_)
      refine VC.ret ⟨_, ResOf.r1 (v := .int _ _) rfl rfl, ?_⟩
      exact ⟨F, rs, rfl, List.Perm.refl _, hasc, Env.under_refl _, A, c, L, ho, hok, hm⟩
  · have hns' : nameOk s = false := by simpa using hns
    have hren : renD ⟨room, absR rs⟩ s t = (2, ⟨room, absR rs⟩) := by
      unfold renD
      rw [if_neg (fun h => hns h.1)]
    rw [hren]
    repeat (first | refine VC.seq ?_ | refine VC.block ?_ | refine VC.skip ?_)
    refine VC.region ?_
    refine VR.pure rfl rfl (p_moveZ rfl) ?_
    refine VR.call rfl rfl (r_call1 Try.call92 rfl) (rname_c hm hs) ?_
    rintro _ w ⟨rfl, hm⟩
    refine VR.pure rfl rfl (p_not rfl) ?_
    refine VR.pure rfl rfl (p_moveB rfl) ?_
    refine VR.knownT 12 rfl (by rw [hns']; rfl) ?_
    refine VR.pass rfl rfl ?_
    refine VR.pass rfl rfl ?_
    refine VR.pass rfl rfl ?_
    refine VR.pure rfl rfl (p_pickT rfl rfl) ?_
    refine VR.nil ?_
    repeat (first | refine VC.seq ?_ | refine VC.block ?_ | refine VC.skip ?_)
    refine VC.condT rfl rfl ?_
    repeat (first | refine VC.seq ?_ | refine VC.block ?_ | refine VC.skip ?_)
    refine VC.region ?_
    refine VR.pure rfl rfl (p_assignI rfl) ?_
    refine VR.nil ?_
    repeat (first | refine VC.seq ?_ | refine VC.block ?_ | refine VC.skip ?_)
    refine VC.ret ⟨_, ResOf.r1 (v := .int _ _) rfl rfl, ?_⟩
    exact ⟨F, rs, rfl, List.Perm.refl _, hasc, Env.under_refl _, A, c, L, ho, hok, hm⟩
theorem rcopy_c {A : Option Addr} {c : Nat} {L : Blks} (ho : OwnR rs A c L) (hm : Mem F w ([(g, rdisk room rs A c)] :: L :: Ls)) (hl : rs.length ≤ 1000) :
    Calls Try.prog 37 #[.pointer (some ⟨g, 0, none⟩)] w (Ret fun v w' => ∃ g2 A2 c2 L2, v = .pointer (some ⟨g2, 0, none⟩) ∧ OwnR rs A2 c2 L2 ∧ Mem F w' ([(g2, rdisk room rs A2 c2)] :: L2 :: [(g, rdisk room rs A c)] :: L :: Ls)) := by
  refine Calls.of_vc Try.func37 rfl Try.ntmps37 rfl ?_
  repeat (first | refine VC.seq ?_ | refine VC.block ?_ | refine VC.skip ?_)
  refine VC.region ?_
  refine VR.pure rfl rfl (p_assignP rfl) ?_
  refine VR.nil ?_
  repeat (first | refine VC.seq ?_ | refine VC.block ?_ | refine VC.skip ?_)
  refine VC.loud (Kept F ([(g, rdisk room rs A c)] :: [])) [4, 9, 11] rfl (by kernel_rfl) (Kept.one hm.drew 0 rfl) ?_
  replace hm := hm.drew
  refine VL.pure rfl rfl rfl (p_moveP rfl) ?_
  refine VL.pure rfl rfl rfl (p_nilCheck rfl) ?_
  refine VL.pure rfl rfl rfl (p_field (fo := 0) Try.underlying109 rfl Try.sizeOf3 rfl rfl rfl) ?_
  refine VL.read rfl rfl rfl (fun w' hw' => r_load (v := .int _ _) Try.isAgg3 rfl (hw'.at_ 0 0 rfl) rfl) ?_
  refine VL.new hm rfl rfl rfl (n_buildSlice0 Try.underlying107 inf112) (fun b' w' hm' => Kept.mem hm' (.tail _ (.head _))) ?_
  intro b4 w hm
  refine VL.pure rfl rfl rfl (p_moveP rfl) ?_
  refine VL.pure rfl rfl rfl (p_nilCheck rfl) ?_
  refine VL.pure rfl rfl rfl (p_field (fo := 1) Try.underlying109 rfl Try.sizeOf107 rfl rfl rfl) ?_
  refine VL.read rfl rfl rfl (fun w' hw' => r_load (v := .slice _ _ _) Try.isAgg107 rfl (hw'.at_ 0 0 rfl) rfl) ?_
  refine VL.append (s := 3) (bytes := 48) Try.underlying107 inf112 rfl rfl rfl rfl rfl rfl rfl rfl rfl rfl hm (OwnS.made (c := 0) (by unfold maxLen; omega) rfl) (ho.row (hm.inW (.tail _ (.tail _ (.head _))))) (rcells_one rs) (Nat.zero_add rs.length) ⟨by unfold maxLen; omega, by omega⟩ (fun A' c' w' L' ho' hm' => Kept.mem hm' (.tail _ (.head _))) ?_
  intro A9 c9 w L9 ho9 hm
  refine VL.pure rfl rfl rfl (p_build (vs := [(0, .int _ _), (1, .slice _ _ _)]) bld109_0_1 rfl) ?_
  refine VL.new hm rfl rfl rfl (n_boxG rfl) (fun b' w' hm' => Kept.mem hm' (.tail _ (.tail _ (.head _)))) ?_
  intro g2 w hm
  refine VL.pure rfl rfl rfl (p_assignP rfl) ?_
  refine VL.nil ?_
  repeat (first | refine VC.seq ?_ | refine VC.block ?_ | refine VC.skip ?_)
  refine VC.ret ⟨_, ResOf.r1 (v := .pointer _) rfl rfl, ?_⟩
  exact ⟨g2, A9, c9, L9, rfl, ho9, hm⟩
end
end Go.Bd
