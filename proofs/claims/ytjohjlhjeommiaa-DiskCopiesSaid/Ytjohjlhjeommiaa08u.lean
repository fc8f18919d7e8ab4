/- Contracts of layer 8: the document's disk: added to, cut. Conditions: as each states. -/
import Derived.Test.Ytjohjlhjeommiaa08t
namespace Go.Bd
open Go.Proofs
set_option linter.unusedVariables false
set_option maxRecDepth 20000

section
variable {F : Env} {w : World} {Ls : List Blks} {g : Nat} {room : Int} {rs : List Rf} {s t : ByteArray}
theorem oks {G : Env} {rs : List Rf} (h : ∀ x ∈ rs, RfOk F.heap x) (hle : ∀ b o, F.heap b = some o → G.heap b = some o) : ∀ x ∈ rs, RfOk G.heap x := fun x hx => (h x hx).mono hle
theorem Kept.mem {F : Env} {w : World} {Ls : List Blks} {L : Blks} (h : Mem F w Ls) (hL : L ∈ Ls) : Kept F [L] w := by
  obtain ⟨i, hi, e⟩ := List.mem_iff_getElem.1 hL
  exact Kept.one h i (by rw [List.getElem?_eq_getElem hi, e])
theorem name_small {s : ByteArray} (h : nameOk s = true) : s.size ≤ 30 := name_size h
theorem updA_rs {rs : List Rf} {i : Nat} {f f' : Rf} {u : Fa → Fa} (hasc : AscN rs) (hi : rs[i]? = some f) (hu : f'.abs = u f.abs) : absR (rs.set i f') = updA (absR rs) f.name u := by
  have hia : (absR rs)[i]? = some f.abs := by rw [List.getElem?_map, hi]; rfl
  rw [show f.name = f.abs.1 from rfl, updA_at hasc.apart hia]
  show (rs.set i f').map Rf.abs = _
  rw [List.map_set, hu]
set_option maxHeartbeats 8000000 in
theorem rappend_c {B : Option Addr} {q d : Nat} {b : List Int} (hm : RMem F w g room rs Ls) (hl : rs.length ≤ 1000) (hasc : AscN rs) (hs : s.size ≤ maxLen) (hq : q ≤ 140737488355328) (hb : BRow F.heap B q b) (hroom : room ≤ 9223372036854775807) :
    Calls Try.prog 56 #[.pointer (some ⟨g, 0, none⟩), .string s, .slice B q d] w (Ret (Did F g room Ls (appD ⟨room, absR rs⟩ s b))) := by
  have hap := hasc.apart
  have hbl := BRow.len hb
  obtain ⟨A, c, L, ho, hok, hm⟩ := hm
  have hsm := sum_small hok
  have hsn := sumL_nonneg (rs.map Rf.abs)
  refine Calls.of_vc Try.func56 rfl Try.ntmps56 rfl ?_
  repeat (first | refine VC.seq ?_ | refine VC.block ?_ | refine VC.skip ?_)
  refine VC.region ?_
  refine VR.pure rfl rfl (p_assignI rfl) ?_
  refine VR.nil ?_
  repeat (first | refine VC.seq ?_ | refine VC.block ?_ | refine VC.skip ?_)
  refine VC.region ?_
  refine VR.pure rfl rfl (p_moveZ rfl) ?_
  refine VR.call rfl rfl (r_call1 Try.call92 rfl) (rname_c hm hs) ?_
  rintro _ w ⟨rfl, hm⟩
  refine VR.pure rfl rfl (p_not rfl) ?_
  refine VR.nil ?_
  by_cases hnm : nameOk s = true
  · rw [hnm]
    repeat (first | refine VC.seq ?_ | refine VC.block ?_ | refine VC.skip ?_)
    refine VC.condF rfl rfl ?_
    repeat (first | refine VC.seq ?_ | refine VC.block ?_ | refine VC.skip ?_)
    refine VC.region ?_
    refine VR.pure rfl rfl (p_moveP rfl) ?_
    refine VR.pure rfl rfl (p_moveZ rfl) ?_
    refine VR.call rfl rfl (r_call2 Try.call63 rfl rfl) (rfind_c (rs := rs) hm.all (hm.plus_at 0 0 rfl) (ho.row (hm.plus_i 1 rfl)) (by omega)) ?_
    rintro _ w ⟨z, rfl, hat, hm'⟩
    replace hm := hm.back0 hm'
    refine VR.pure rfl rfl (p_assignI rfl) ?_
    refine VR.nil ?_
    repeat (first | refine VC.seq ?_ | refine VC.block ?_ | refine VC.skip ?_)
    refine VC.region ?_
    refine VR.pure rfl rfl (p_moveL rfl) ?_
    refine VR.pure rfl rfl (p_len Try.underlying22 rfl) ?_
    refine VR.pure rfl rfl (p_assignI rfl) ?_
    refine VR.nil ?_
    rcases hat.inA hap with ⟨i, f, hi, hf, rfl, hin, hi', hia⟩ | ⟨hno, rfl, hin⟩
    · have hfo := hok f (List.mem_of_getElem? hi)
      have hfl := hfo.len
      have hfle := hfo.le
      obtain ⟨gl, cur, rfl, rfl⟩ := ho.lit hi'
      obtain ⟨hcell, hsz⟩ := ho.cell hi
      have happ : appD ⟨room, absR rs⟩ s b = if 4194304 < f.l.length + b.length then (3, ⟨room, absR rs⟩) else if room - sumL (rs.map Rf.abs) < b.length then (5, ⟨room, absR rs⟩) else (0, ⟨room, updA (absR rs) s fun f => (f.1, f.2.1 ++ b, f.2.2)⟩) := by
        unfold appD
        rw [if_pos hnm]
        show (match inA (absR rs) s with | some f => _ | none => _) = _
        rw [hin]
        rfl
      rw [happ]
      repeat (first | refine VC.seq ?_ | refine VC.block ?_ | refine VC.skip ?_)
      refine VC.region ?_
      refine VR.pure rfl rfl (p_moveI rfl) ?_
      refine VR.pure rfl rfl (p_ge rfl rfl) ?_
      refine VR.nil ?_
      repeat (first | refine VC.seq ?_ | refine VC.block ?_ | refine VC.skip ?_)
      refine VC.condD rfl (fun h5 => ?_) (fun h5 => ?_)
      · repeat (first | refine VC.seq ?_ | refine VC.block ?_ | refine VC.skip ?_)
        refine VC.region ?_
        refine VR.pure rfl rfl (p_moveI rfl) ?_
        refine VR.pure rfl rfl (p_moveP rfl) ?_
        refine VR.pure rfl rfl (p_nilCheck rfl) ?_
        refine VR.pure rfl rfl (p_field (fo := 1) Try.underlying109 rfl Try.sizeOf107 rfl rfl rfl) ?_
        refine VR.val rfl rfl (r_load (v := .slice _ _ _) Try.isAgg107 rfl (hm.at_ 0 0 rfl) rfl) ?_
        refine VR.pure rfl rfl (p_moveI rfl) ?_
        refine VR.pure rfl rfl (p_idxN Try.underlying107 Try.sizeOf112 rfl rfl hi') ?_
        refine VR.pure rfl rfl (p_field (fo := 1) Try.underlying112 rfl Try.sizeOf22 rfl rfl rfl) ?_
        refine VR.val rfl rfl (r_load (v := .slice _ _ _) Try.isAgg22 rfl (hm.at_ 1 0 rfl) (hcell 1 (by decide))) ?_
        refine VR.pure rfl rfl (p_len Try.underlying22 rfl) ?_
        refine VR.pure rfl rfl (p_add64 rfl rfl (by omega)) ?_
        refine VR.pure rfl rfl (p_assignI rfl) ?_
        refine VR.nil ?_
        repeat (first | refine VC.seq ?_ | refine VC.block ?_ | refine VC.skip ?_)
        refine VC.region ?_
        refine VR.pure rfl rfl (p_moveI rfl) ?_
        refine VR.pure rfl rfl (p_gt rfl rfl) ?_
        refine VR.nil ?_
        repeat (first | refine VC.seq ?_ | refine VC.block ?_ | refine VC.skip ?_)
        refine VC.condD rfl (fun h7 => ?_) (fun h7 => ?_)
        · repeat (first | refine VC.seq ?_ | refine VC.block ?_ | refine VC.skip ?_)
          refine VC.region ?_
          refine VR.pure rfl rfl (p_assignI rfl) ?_
          refine VR.nil ?_
          repeat (first | refine VC.seq ?_ | refine VC.block ?_ | refine VC.skip ?_)
          refine VC.ret ⟨_, ResOf.r1 (v := .int _ _) rfl rfl, ?_⟩
          rw [if_pos (by omega)]
          exact ⟨F, rs, rfl, List.Perm.refl _, hasc, Env.under_refl _, some ⟨gl, 0, none⟩, c, _, ho, hok, hm⟩
        · rw [if_neg (by omega)]
          repeat (first | refine VC.seq ?_ | refine VC.block ?_ | refine VC.skip ?_)
          refine VC.loud (Kept F ([(g, rdisk room rs (some ⟨gl, 0, none⟩) c)] :: [])) [1] rfl (by kernel_rfl) (Kept.one hm.drew 0 rfl) ?_
          replace hm := hm.drew
          refine VL.pure rfl rfl rfl (p_moveP rfl) ?_
          refine VL.call rfl rfl rfl (r_call1 Try.call62 rfl) (rused_c (rs := rs) hm.all (hm.plus_at 0 0 rfl) (ho.row (hm.plus_i 1 rfl)) (oks hok hm.le) (by omega)) ?_
          rintro _ w ⟨rfl, hm'⟩
          replace hm := hm.back0 hm'
          refine ⟨Kept.one hm 0 rfl, ?_⟩
          refine VL.pure rfl rfl rfl (p_moveL rfl) ?_
          refine VL.pure rfl rfl rfl (p_len Try.underlying22 rfl) ?_
          refine VL.pure rfl rfl rfl (p_add64 rfl rfl (by omega)) ?_
          refine VL.pure rfl rfl rfl (p_moveP rfl) ?_
          refine VL.pure rfl rfl rfl (p_nilCheck rfl) ?_
          refine VL.pure rfl rfl rfl (p_field (fo := 0) Try.underlying109 rfl Try.sizeOf3 rfl rfl rfl) ?_
          refine VL.read rfl rfl rfl (fun w' hw' => r_load (v := .int _ _) Try.isAgg3 rfl (hw'.at_ 0 0 rfl) rfl) ?_
          refine VL.pure rfl rfl rfl (p_gt rfl rfl) ?_
          refine VL.nil ?_
          repeat (first | refine VC.seq ?_ | refine VC.block ?_ | refine VC.skip ?_)
          refine VC.condD rfl (fun h9 => ?_) (fun h9 => ?_)
          · repeat (first | refine VC.seq ?_ | refine VC.block ?_ | refine VC.skip ?_)
            refine VC.region ?_
            refine VR.pure rfl rfl (p_assignI rfl) ?_
            refine VR.nil ?_
            repeat (first | refine VC.seq ?_ | refine VC.block ?_ | refine VC.skip ?_)
            refine VC.ret ⟨_, ResOf.r1 (v := .int _ _) rfl rfl, ?_⟩
            rw [if_pos (by omega)]
            exact ⟨F, rs, rfl, List.Perm.refl _, hasc, Env.under_refl _, some ⟨gl, 0, none⟩, c, _, ho, hok, hm⟩
          · rw [if_neg (by omega)]
            repeat (first | refine VC.seq ?_ | refine VC.block ?_ | refine VC.skip ?_)
            refine VC.region ?_
            refine VR.pure rfl rfl (p_moveI rfl) ?_
            refine VR.pure rfl rfl (p_lt rfl rfl) ?_
            refine VR.nil ?_
            repeat (first | refine VC.seq ?_ | refine VC.block ?_ | refine VC.skip ?_)
            refine VC.condD rfl (fun h11 => ?_) (fun h11 => ?_)
            · omega
            · have hrow : Row F.heap f.A (f.n * 1) (bytes f.l) := by rw [Nat.mul_one]; exact hfo.row
              have hrowb : Row F.heap B (q * 1) (bytes b) := by rw [Nat.mul_one]; exact hb
              refine VC.meet (σ := Option Addr × Nat × Blks) (fun _ => []) (fun s w => OwnS 5 1 s.1 (f.n + q) s.2.1 (bytes (f.l ++ b)) s.2.2 ∧ Mem F w (s.2.2 :: [(g, rdisk room rs (some ⟨gl, 0, none⟩) c)] :: [(gl, .cells (cur.setIfInBounds (0 + i * 3 + 1) (.slice s.1 (f.n + q) s.2.1)) 112 (0, 0))] :: Ls)) ?_ ?_
              · repeat (first | refine VC.seq ?_ | refine VC.block ?_ | refine VC.skip ?_)
                refine VC.free (Kept F ([(g, rdisk room rs (some ⟨gl, 0, none⟩) c)] :: [])) [5, 13, 14, 16, 19] rfl (by kernel_rfl) (Kept.one hm.drew 0 rfl) ?_
                replace hm := hm.drew
                refine VD.pure 0 rfl (by kernel_rfl) rfl rfl (p_moveP rfl) ?_
                refine VD.pure 1 rfl (by kernel_rfl) rfl rfl (p_nilCheck rfl) ?_
                refine VD.pure 2 rfl (by kernel_rfl) rfl rfl (p_field (fo := 1) Try.underlying109 rfl Try.sizeOf107 rfl rfl rfl) ?_
                refine VD.read 3 rfl (by kernel_rfl) rfl rfl (fun w' hw' => r_load (v := .slice _ _ _) Try.isAgg107 rfl (hw'.at_ 0 0 rfl) rfl) ?_
                refine VD.pure 4 rfl (by kernel_rfl) rfl rfl (p_moveI rfl) ?_
                refine VD.pure 6 rfl (by kernel_rfl) rfl rfl (p_moveP rfl) ?_
                refine VD.pure 7 rfl (by kernel_rfl) rfl rfl (p_nilCheck rfl) ?_
                refine VD.pure 8 rfl (by kernel_rfl) rfl rfl (p_field (fo := 1) Try.underlying109 rfl Try.sizeOf107 rfl rfl rfl) ?_
                refine VD.read 9 rfl (by kernel_rfl) rfl rfl (fun w' hw' => r_load (v := .slice _ _ _) Try.isAgg107 rfl (hw'.at_ 0 0 rfl) rfl) ?_
                refine VD.pure 10 rfl (by kernel_rfl) rfl rfl (p_moveI rfl) ?_
                refine VD.pure 11 rfl (by kernel_rfl) rfl rfl (p_idxN Try.underlying107 Try.sizeOf112 rfl rfl hi') ?_
                refine VD.pure 12 rfl (by kernel_rfl) rfl rfl (p_field (fo := 1) Try.underlying112 rfl Try.sizeOf22 rfl rfl rfl) ?_
                refine VD.pure 15 rfl (by kernel_rfl) rfl rfl (p_moveL rfl) ?_
                refine VD.turn2 5 13 (by kernel_rfl) ?_ ?_
                refine VDT.new hm rfl rfl rfl (n_buildSlice0 Try.underlying22 inf5) (fun b' w' hm' => Kept.mem hm' (by simp)) ?_
                intro b5 w hm
                refine VD.turn1 13 (by kernel_rfl) ?_
                refine VDT.val rfl rfl rfl (r_load (v := .slice _ _ _) Try.isAgg22 rfl (hm.at_ 2 0 rfl) (hcell 1 (by decide))) (Kept.mem hm (by simp)) ?_
                refine VD.turn1 14 (by kernel_rfl) ?_
                refine VDT.append (s := 1) (bytes := 1) Try.underlying22 inf5 rfl rfl rfl rfl rfl rfl rfl rfl rfl rfl hm (OwnS.made (c := 0) (by unfold maxLen; omega) rfl) (hrow.mono hm.fix) (bytes_one f.l) (Nat.zero_add f.n) ⟨by unfold maxLen; omega, by omega⟩ (fun A' c' w' L' ho' hm' => Kept.mem hm' (by simp)) ?_
                intro A14 c14 w L14 ho14 hm
                refine VD.turn1 16 (by kernel_rfl) ?_
                refine VDT.append (s := 1) (bytes := 1) Try.underlying22 inf5 rfl rfl rfl rfl rfl rfl rfl rfl rfl rfl hm ho14 (hrowb.mono hm.fix) (bytes_one b) rfl ⟨by unfold maxLen; omega, by omega⟩ (fun A' c' w' L' ho' hm' => Kept.mem hm' (by simp)) ?_
                intro A16 c16 w L16 ho16 hm
                refine VD.pure 17 rfl (by kernel_rfl) rfl rfl (p_idxN Try.underlying107 Try.sizeOf112 rfl rfl hi') ?_
                refine VD.pure 18 rfl (by kernel_rfl) rfl rfl (p_field (fo := 1) Try.underlying112 rfl Try.sizeOf22 rfl rfl rfl) ?_
                refine VD.turn1 19 (by kernel_rfl) ?_
                refine VDT.store (cs' := (cur.setIfInBounds (0 + i * 3 + 1) (.slice A16 (f.n + q) c16))) (v := .slice _ _ _) Try.sizeOf22 rfl rfl rfl rfl rfl rfl hm 2 0 rfl (by omega) rfl (fun w' hm' => Kept.mem hm' (.tail _ (.head _))) ?_
                intro w hm
                refine VD.nil (by kernel_rfl) rfl ?_
                rotate_left 1
                refine VDT.val rfl rfl rfl (r_load (v := .slice _ _ _) Try.isAgg22 rfl (hm.at_ 1 0 rfl) (hcell 1 (by decide))) (Kept.mem hm (by simp)) ?_
                refine VD.turn1 5 (by kernel_rfl) ?_
                refine VDT.new hm rfl rfl rfl (n_buildSlice0 Try.underlying22 inf5) (fun b' w' hm' => Kept.mem hm' (by simp)) ?_
                intro b5 w hm
                refine VD.turn1 14 (by kernel_rfl) ?_
                refine VDT.append (s := 1) (bytes := 1) Try.underlying22 inf5 rfl rfl rfl rfl rfl rfl rfl rfl rfl rfl hm (OwnS.made (c := 0) (by unfold maxLen; omega) rfl) (hrow.mono hm.fix) (bytes_one f.l) (Nat.zero_add f.n) ⟨by unfold maxLen; omega, by omega⟩ (fun A' c' w' L' ho' hm' => Kept.mem hm' (by simp)) ?_
                intro A14 c14 w L14 ho14 hm
                refine VD.turn1 16 (by kernel_rfl) ?_
                refine VDT.append (s := 1) (bytes := 1) Try.underlying22 inf5 rfl rfl rfl rfl rfl rfl rfl rfl rfl rfl hm ho14 (hrowb.mono hm.fix) (bytes_one b) rfl ⟨by unfold maxLen; omega, by omega⟩ (fun A' c' w' L' ho' hm' => Kept.mem hm' (by simp)) ?_
                intro A16 c16 w L16 ho16 hm
                refine VD.pure 17 rfl (by kernel_rfl) rfl rfl (p_idxN Try.underlying107 Try.sizeOf112 rfl rfl hi') ?_
                refine VD.pure 18 rfl (by kernel_rfl) rfl rfl (p_field (fo := 1) Try.underlying112 rfl Try.sizeOf22 rfl rfl rfl) ?_
                refine VD.turn1 19 (by kernel_rfl) ?_
                refine VDT.store (cs' := (cur.setIfInBounds (0 + i * 3 + 1) (.slice A16 (f.n + q) c16))) (v := .slice _ _ _) Try.sizeOf22 rfl rfl rfl rfl rfl rfl hm 2 0 rfl (by omega) rfl (fun w' hm' => Kept.mem hm' (.tail _ (.head _))) ?_
                intro w hm
                refine VD.nil (by kernel_rfl) rfl ?_
                rotate_left 1
                all_goals exact ⟨(A16, c16, L16), trivial, by rw [show bytes (f.l ++ b) = bytes f.l ++ bytes b from List.map_append]; exact ho16, hm⟩
              clear hm
              rintro ⟨A16, c16, L16⟩ A3 w ⟨ho16, hm⟩
              dsimp only at ho16 hm
              obtain ⟨G, hu, hm, hL16⟩ := hm.freeze
              have hr16 := ho16.row1 hL16
              have hc16 := ho16.le
              repeat (first | refine VC.seq ?_ | refine VC.block ?_ | refine VC.skip ?_)
              refine VC.region ?_
              refine VR.pure rfl rfl (p_assignI rfl) ?_
              refine VR.nil ?_
              repeat (first | refine VC.seq ?_ | refine VC.block ?_ | refine VC.skip ?_)
              refine VC.ret ⟨_, ResOf.r1 (v := .int _ _) rfl rfl, ?_⟩
              refine ⟨G, rs.set i { f with A := A16, n := f.n + q, c := c16, l := f.l ++ b }, rfl, List.Perm.of_eq ?_, hasc.set hi rfl, hu, some ⟨gl, 0, none⟩, c, [(gl, .cells (cur.setIfInBounds (0 + i * 3 + 1) (.slice A16 (f.n + q) c16)) 112 (0, 0))], ?_, fun x hx => ?_, ?_⟩
              · rw [← hf]
                exact updA_rs hasc hi rfl
              · show OwnS _ 3 _ (rs.set i _).length c (rcells (rs.set i _)) _
                rw [List.length_set, ← rcells_put (j := 1) (v := .slice A16 (f.n + q) c16) hi (by decide) rfl]
                exact ho.put _
              · rcases List.mem_or_eq_of_mem_set hx with hx | rfl
                · exact (hok x hx).mono hu.heap
                · have hsy := hfo.sy
                  exact ⟨hr16, ⟨hc16.1, by show f.n + q ≤ _; omega⟩, by show 0 ≤ f.sy ∧ f.sy ≤ ((f.n + q : Nat) : Int); omega⟩
              · unfold rdisk
                rw [List.length_set]
                exact hm
      · omega
    · have happ : appD ⟨room, absR rs⟩ s b = if 4194304 < b.length then (3, ⟨room, absR rs⟩) else if room - sumL (rs.map Rf.abs) < b.length then (5, ⟨room, absR rs⟩) else (0, ⟨room, absR rs ++ [(s, b, 0)]⟩) := by
        unfold appD
        rw [if_pos hnm]
        show (match inA (absR rs) s with | some f => _ | none => _) = _
        rw [hin]
      rw [happ]
      repeat (first | refine VC.seq ?_ | refine VC.block ?_ | refine VC.skip ?_)
      refine VC.region ?_
      refine VR.pure rfl rfl (p_moveI rfl) ?_
      refine VR.pure rfl rfl (p_ge rfl rfl) ?_
      refine VR.nil ?_
      repeat (first | refine VC.seq ?_ | refine VC.block ?_ | refine VC.skip ?_)
      refine VC.condD rfl (fun h5 => ?_) (fun h5 => ?_)
      · omega
      · repeat (first | refine VC.seq ?_ | refine VC.block ?_ | refine VC.skip ?_)
        repeat (first | refine VC.seq ?_ | refine VC.block ?_ | refine VC.skip ?_)
        refine VC.region ?_
        refine VR.pure rfl rfl (p_moveI rfl) ?_
        refine VR.pure rfl rfl (p_gt rfl rfl) ?_
        refine VR.nil ?_
        repeat (first | refine VC.seq ?_ | refine VC.block ?_ | refine VC.skip ?_)
        refine VC.condD rfl (fun h7 => ?_) (fun h7 => ?_)
        · repeat (first | refine VC.seq ?_ | refine VC.block ?_ | refine VC.skip ?_)
          refine VC.region ?_
          refine VR.pure rfl rfl (p_assignI rfl) ?_
          refine VR.nil ?_
          repeat (first | refine VC.seq ?_ | refine VC.block ?_ | refine VC.skip ?_)
          refine VC.ret ⟨_, ResOf.r1 (v := .int _ _) rfl rfl, ?_⟩
          rw [if_pos (by omega)]
          exact ⟨F, rs, rfl, List.Perm.refl _, hasc, Env.under_refl _, A, c, L, ho, hok, hm⟩
        · rw [if_neg (by omega)]
          repeat (first | refine VC.seq ?_ | refine VC.block ?_ | refine VC.skip ?_)
          refine VC.loud (Kept F ([(g, rdisk room rs A c)] :: [])) [1] rfl (by kernel_rfl) (Kept.one hm.drew 0 rfl) ?_
          replace hm := hm.drew
          refine VL.pure rfl rfl rfl (p_moveP rfl) ?_
          refine VL.call rfl rfl rfl (r_call1 Try.call62 rfl) (rused_c (rs := rs) hm.all (hm.plus_at 0 0 rfl) (ho.row (hm.plus_i 1 rfl)) (oks hok hm.le) (by omega)) ?_
          rintro _ w ⟨rfl, hm'⟩
          replace hm := hm.back0 hm'
          refine ⟨Kept.one hm 0 rfl, ?_⟩
          refine VL.pure rfl rfl rfl (p_moveL rfl) ?_
          refine VL.pure rfl rfl rfl (p_len Try.underlying22 rfl) ?_
          refine VL.pure rfl rfl rfl (p_add64 rfl rfl (by omega)) ?_
          refine VL.pure rfl rfl rfl (p_moveP rfl) ?_
          refine VL.pure rfl rfl rfl (p_nilCheck rfl) ?_
          refine VL.pure rfl rfl rfl (p_field (fo := 0) Try.underlying109 rfl Try.sizeOf3 rfl rfl rfl) ?_
          refine VL.read rfl rfl rfl (fun w' hw' => r_load (v := .int _ _) Try.isAgg3 rfl (hw'.at_ 0 0 rfl) rfl) ?_
          refine VL.pure rfl rfl rfl (p_gt rfl rfl) ?_
          refine VL.nil ?_
          repeat (first | refine VC.seq ?_ | refine VC.block ?_ | refine VC.skip ?_)
          refine VC.condD rfl (fun h9 => ?_) (fun h9 => ?_)
          · repeat (first | refine VC.seq ?_ | refine VC.block ?_ | refine VC.skip ?_)
            refine VC.region ?_
            refine VR.pure rfl rfl (p_assignI rfl) ?_
            refine VR.nil ?_
            repeat (first | refine VC.seq ?_ | refine VC.block ?_ | refine VC.skip ?_)
            refine VC.ret ⟨_, ResOf.r1 (v := .int _ _) rfl rfl, ?_⟩
            rw [if_pos (by omega)]
            exact ⟨F, rs, rfl, List.Perm.refl _, hasc, Env.under_refl _, A, c, L, ho, hok, hm⟩
          · rw [if_neg (by omega)]
            repeat (first | refine VC.seq ?_ | refine VC.block ?_ | refine VC.skip ?_)
            refine VC.region ?_
            refine VR.pure rfl rfl (p_moveI rfl) ?_
            refine VR.pure rfl rfl (p_lt rfl rfl) ?_
            refine VR.nil ?_
            repeat (first | refine VC.seq ?_ | refine VC.block ?_ | refine VC.skip ?_)
            refine VC.condD rfl (fun h11 => ?_) (fun h11 => ?_)
            · have hrowb : Row F.heap B (q * 1) (bytes b) := by rw [Nat.mul_one]; exact hb
              repeat (first | refine VC.seq ?_ | refine VC.block ?_ | refine VC.skip ?_)
              refine VC.region ?_
              refine VR.pure rfl rfl (p_moveP rfl) ?_
              refine VR.pure rfl rfl (p_moveZ rfl) ?_
              refine VR.new hm rfl rfl (n_buildSlice0 Try.underlying22 inf5) ?_
              intro b46 w hm
              refine VR.pure rfl rfl (p_moveL rfl) ?_
              refine VR.append (s := 1) (bytes := 1) Try.underlying22 inf5 rfl rfl rfl rfl rfl rfl rfl rfl rfl hm (OwnS.made (c := 0) (by unfold maxLen; omega) rfl) (hrowb.mono hm.fix) (bytes_one b) (Nat.zero_add q) ⟨by unfold maxLen; omega, by omega⟩ ?_
              intro A4 c4 w L4 ho4 hm
              refine VR.pure rfl rfl (p_build (vs := [(0, .string _), (1, .slice _ _ _)]) bld112_0_1 rfl) ?_
              obtain ⟨G, hu, hm, hL4⟩ := hm.freeze
              have hr4 := ho4.row1 hL4
              have hc4 := ho4.le
              have hne : ∀ x ∈ rs, x.name ≠ s := fun x hx e => hno x.abs (List.mem_map.2 ⟨x, hx, rfl⟩) e
              have hok4 : RfOk G.heap ⟨s, A4, q, c4, b, 0⟩ := ⟨hr4, ⟨hc4.1, by show q ≤ _; omega⟩, by show (0 : Int) ≤ 0 ∧ (0 : Int) ≤ q; omega⟩
              refine VR.call rfl rfl (r_call2 Try.call93 rfl rfl) (rput_c (f := ⟨s, A4, q, c4, b, 0⟩) ⟨A, c, L, ho, oks hok hu.heap, hm⟩ (by omega) hasc hne hok4) ?_
              rintro v6 w ⟨rs', hperm, hasc', hm⟩
              refine VR.nil ?_
              repeat (first | refine VC.seq ?_ | refine VC.block ?_ | refine VC.skip ?_)
              repeat (first | refine VC.seq ?_ | refine VC.block ?_ | refine VC.skip ?_)
              refine VC.region ?_
              refine VR.pure rfl rfl (p_assignI rfl) ?_
              refine VR.nil ?_
              repeat (first | refine VC.seq ?_ | refine VC.block ?_ | refine VC.skip ?_)
              refine VC.ret ⟨_, ResOf.r1 (v := .int _ _) rfl rfl, ?_⟩
              exact ⟨G, rs', rfl, (hperm.map Rf.abs).trans (List.Perm.of_eq (List.map_append ..)), hasc', hu, hm⟩
            · omega
  · have hnm' : nameOk s = false := by simpa using hnm
    rw [hnm']
    repeat (first | refine VC.seq ?_ | refine VC.block ?_ | refine VC.skip ?_)
    refine VC.condT rfl rfl ?_
    repeat (first | refine VC.seq ?_ | refine VC.block ?_ | refine VC.skip ?_)
    refine VC.region ?_
    refine VR.pure rfl rfl (p_assignI rfl) ?_
    refine VR.nil ?_
    repeat (first | refine VC.seq ?_ | refine VC.block ?_ | refine VC.skip ?_)
    refine VC.ret ⟨_, ResOf.r1 (v := .int _ _) rfl rfl, ?_⟩
    unfold appD
    rw [if_neg hnm]
    exact ⟨F, rs, rfl, List.Perm.refl _, hasc, Env.under_refl _, A, c, L, ho, hok, hm⟩
end
end Go.Bd
