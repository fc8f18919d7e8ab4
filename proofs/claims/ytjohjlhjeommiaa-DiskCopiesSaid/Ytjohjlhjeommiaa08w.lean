/- Contracts of layer 8: the document's disk: cut, crashed, a file renamed. Conditions: as each states. -/
import Derived.Test.Ytjohjlhjeommiaa08u
namespace Go.Bd
open Go.Proofs
set_option linter.unusedVariables false
set_option maxRecDepth 20000

section
variable {F : Env} {w : World} {Ls : List Blks} {g : Nat} {room : Int} {rs : List Rf} {s t : ByteArray}
theorem cutR_cells {f : Rf} {A : Option Addr} {k c : Nat} (l : List Int) : ({ f with A := A, n := k, c := c, l := l, sy := (k : Int) } : Rf).cells = (f.cells.set 1 (.slice A k c)).set 2 (.int .i64 k) := rfl
theorem rcells_put2 {rs : List Rf} {i : Nat} {f f' : Rf} {u v : Value} {A : Option Addr} {n c : Nat} (hi : rs[i]? = some f) (hu : u = .slice A n c) (hc : f'.cells = (f.cells.set 1 u).set 2 v) : ((rcells rs).set (0 + i * 3 + 1) u).set (0 + i * 3 + 2) v = rcells (rs.set i f') := by
  subst hu
  have h1 := rcells_put (j := 1) (v := .slice A n c) (f' := { f with A := A, n := n, c := c }) hi (by decide) rfl
  rw [h1]
  have hi2 : (rs.set i { f with A := A, n := n, c := c })[i]? = some { f with A := A, n := n, c := c } := by rw [List.getElem?_set, if_pos rfl, if_pos (List.getElem?_eq_some_iff.1 hi).1]
  rw [rcells_put (j := 2) (v := v) (f' := f') hi2 (by decide) hc, List.set_set]
theorem row_head {H : Nat → Option Obj} {A : Option Addr} {n k : Nat} {l : List Int} (h : BRow H A n l) (hk : k ≤ n) : Row H A (k * 1) (bytes (l.take k)) := by
  have h1 := Row.take h (k := k) hk
  rw [← List.map_take] at h1
  rw [Nat.mul_one]
  exact h1
set_option maxHeartbeats 8000000 in
theorem rcut_c {n : Int} (hm : RMem F w g room rs Ls) (hl : rs.length ≤ 1000) (hasc : AscN rs) :
    Calls Try.prog 58 #[.pointer (some ⟨g, 0, none⟩), .string s, .int .i64 n] w (Ret (Did F g room Ls (cutD ⟨room, absR rs⟩ s n))) := by
  have hap := hasc.apart
  obtain ⟨A, c, L, ho, hok, hm⟩ := hm
  refine Calls.of_vc Try.func58 rfl Try.ntmps58 rfl ?_
  repeat (first | refine VC.seq ?_ | refine VC.block ?_ | refine VC.skip ?_)
  refine VC.region ?_
  refine VR.pure rfl rfl (p_assignI rfl) ?_
  refine VR.nil ?_
  repeat (first | refine VC.seq ?_ | refine VC.block ?_ | refine VC.skip ?_)
  refine VC.region ?_
  refine VR.pure rfl rfl (p_moveP rfl) ?_
  refine VR.pure rfl rfl (p_moveZ rfl) ?_
  refine VR.call rfl rfl (r_call2 Try.call63 rfl rfl) (rfind_c (rs := rs) hm.all (hm.plus_at 0 0 rfl) (ho.row (hm.plus_i 1 rfl)) (by omega)) ?_
  rintro _ w ⟨z, rfl, hat, hm'⟩
  replace hm := hm.back0 hm'
  refine VR.pure rfl rfl (p_assignI rfl) ?_
  refine VR.nil ?_
  repeat (first | refine VC.seq ?_ | refine VC.block ?_ | refine VC.skip ?_)
  refine VC.region ?_
  refine VR.pure rfl rfl (p_moveI rfl) ?_
  refine VR.pure rfl rfl (p_lt rfl rfl) ?_
  refine VR.nil ?_
  rcases hat.inA hap with ⟨i, f, hi, hf, rfl, hin, hi', hia⟩ | ⟨hno, rfl, hin⟩
  · have hfo := hok f (List.mem_of_getElem? hi)
    have hfl := hfo.len
    have hfle := hfo.le
    obtain ⟨gl, cur, rfl, rfl⟩ := ho.lit hi'
    obtain ⟨hcell, hsz⟩ := ho.cell hi
    have hcut : cutD ⟨room, absR rs⟩ s n = if n < 0 ∨ (f.l.length : Int) < n then (2, ⟨room, absR rs⟩) else (0, ⟨room, updA (absR rs) s (cutF n.toNat)⟩) := by
      unfold cutD
      show (match inA (absR rs) s with | some f => _ | none => _) = _
      rw [hin]
      rfl
    rw [hcut]
    repeat (first | refine VC.seq ?_ | refine VC.block ?_ | refine VC.skip ?_)
    refine VC.condD rfl (fun h2 => ?_) (fun h2 => ?_)
    · omega
    · repeat (first | refine VC.seq ?_ | refine VC.block ?_ | refine VC.skip ?_)
      refine VC.region ?_
      refine VR.pure rfl rfl (p_moveI rfl) ?_
      refine VR.pure rfl rfl (p_lt rfl rfl) ?_
      refine VR.pure rfl rfl (p_moveB rfl) ?_
      refine VR.splitD 15 rfl (fun h4 => ?_) (fun h4 => ?_)
      refine VR.pass rfl rfl ?_
      refine VR.pass rfl rfl ?_
      refine VR.pass rfl rfl ?_
      refine VR.pass rfl rfl ?_
      refine VR.pass rfl rfl ?_
      refine VR.pass rfl rfl ?_
      refine VR.pass rfl rfl ?_
      refine VR.pass rfl rfl ?_
      refine VR.pass rfl rfl ?_
      refine VR.pass rfl rfl ?_
      refine VR.pass rfl rfl ?_
      refine VR.pure rfl rfl (p_pickT rfl rfl) ?_
      refine VR.nil ?_
      rotate_left 1
      refine VR.pureG rfl rfl (p_moveI rfl) ?_
      refine VR.pureG rfl rfl (p_moveP rfl) ?_
      refine VR.pureG rfl rfl (p_nilCheck rfl) ?_
      refine VR.pureG rfl rfl (p_field (fo := 1) Try.underlying109 rfl Try.sizeOf107 rfl rfl rfl) ?_
      refine VR.valG rfl rfl (r_load (v := .slice _ _ _) Try.isAgg107 rfl (hm.at_ 0 0 rfl) rfl) ?_
      refine VR.pureG rfl rfl (p_moveI rfl) ?_
      refine VR.pureG rfl rfl (p_idxN Try.underlying107 Try.sizeOf112 rfl rfl hi') ?_
      refine VR.pureG rfl rfl (p_field (fo := 1) Try.underlying112 rfl Try.sizeOf22 rfl rfl rfl) ?_
      refine VR.valG rfl rfl (r_load (v := .slice _ _ _) Try.isAgg22 rfl (hm.at_ 1 0 rfl) (hcell 1 (by decide))) ?_
      refine VR.pureG rfl rfl (p_len Try.underlying22 rfl) ?_
      refine VR.pureG rfl rfl (p_gt rfl rfl) ?_
      refine VR.pure rfl rfl (p_pickF rfl rfl) ?_
      refine VR.nil ?_
      rotate_left 1
      · repeat (first | refine VC.seq ?_ | refine VC.block ?_ | refine VC.skip ?_)
        refine VC.condT rfl rfl ?_
        repeat (first | refine VC.seq ?_ | refine VC.block ?_ | refine VC.skip ?_)
        refine VC.region ?_
        refine VR.pure rfl rfl (p_assignI rfl) ?_
        refine VR.nil ?_
        repeat (first | refine VC.seq ?_ | refine VC.block ?_ | refine VC.skip ?_)
        refine VC.ret ⟨_, ResOf.r1 (v := .int _ _) rfl rfl, ?_⟩
        rw [if_pos (.inl h4)]
        exact ⟨F, rs, rfl, List.Perm.refl _, hasc, Env.under_refl _, some ⟨gl, 0, none⟩, c, _, ho, hok, hm⟩
      · repeat (first | refine VC.seq ?_ | refine VC.block ?_ | refine VC.skip ?_)
        refine VC.condD rfl (fun h13 => ?_) (fun h13 => ?_)
        · repeat (first | refine VC.seq ?_ | refine VC.block ?_ | refine VC.skip ?_)
          refine VC.region ?_
          refine VR.pure rfl rfl (p_assignI rfl) ?_
          refine VR.nil ?_
          repeat (first | refine VC.seq ?_ | refine VC.block ?_ | refine VC.skip ?_)
          refine VC.ret ⟨_, ResOf.r1 (v := .int _ _) rfl rfl, ?_⟩
          rw [if_pos (.inr (by omega))]
          exact ⟨F, rs, rfl, List.Perm.refl _, hasc, Env.under_refl _, some ⟨gl, 0, none⟩, c, _, ho, hok, hm⟩
        · rw [if_neg (by omega)]
          obtain ⟨k, rfl, hk⟩ : ∃ k : Nat, n = k ∧ k ≤ f.n := ⟨n.toNat, by omega, by omega⟩
          have hrow := row_head hfo.row hk
          repeat (first | refine VC.seq ?_ | refine VC.block ?_ | refine VC.skip ?_)
          refine VC.meet (σ := Option Addr × Nat × Blks) (fun _ => [(0, .pointer (some ⟨g, 0, none⟩)), (2, .int .i64 k), (7, .int .i64 i)]) (fun s w => OwnS 5 1 s.1 k s.2.1 (bytes (f.l.take k)) s.2.2 ∧ Mem F w (s.2.2 :: [(g, rdisk room rs (some ⟨gl, 0, none⟩) c)] :: [(gl, .cells (cur.setIfInBounds (0 + i * 3 + 1) (.slice s.1 k s.2.1)) 112 (0, 0))] :: Ls)) ?_ ?_
          · repeat (first | refine VC.seq ?_ | refine VC.block ?_ | refine VC.skip ?_)
            refine VC.free (Kept F ([(g, rdisk room rs (some ⟨gl, 0, none⟩) c)] :: [])) [5, 13, 16, 19] rfl (by kernel_rfl) (Kept.one hm.drew 0 rfl) ?_
            replace hm := hm.drew
            refine VD.pure 0 rfl (by kernel_rfl) rfl rfl (p_moveP rfl) ?_
            refine VD.pure 1 rfl (by kernel_rfl) rfl rfl (p_nilCheck rfl) ?_
            refine VD.pure 2 rfl (by kernel_rfl) rfl rfl (p_field (fo := 1) Try.underlying109 rfl Try.sizeOf107 rfl rfl rfl) ?_
            refine VD.read 3 rfl (by kernel_rfl) rfl rfl (fun w' hw' => r_load (v := .slice _ _ _) Try.isAgg107 rfl (hw'.at_ 0 0 rfl) rfl) ?_
            refine VD.pure 4 rfl (by kernel_rfl) rfl rfl (p_moveI rfl) ?_
            refine VD.pure 6 rfl (by kernel_rfl) rfl rfl (p_moveP rfl) ?_
            refine VD.pure 7 rfl (by kernel_rfl) rfl rfl (p_nilCheck rfl) ?_
            refine VD.pure 8 rfl (by kernel_rfl) rfl rfl (p_field (fo := 1) Try.underlying109 rfl Try.sizeOf107 rfl rfl rfl) ?_
            refine VD.read 9 rfl (by kernel_rfl) rfl rfl (fun w' hw' => r_load (v := .slice _ _ _) Try.isAgg107 rfl (hw'.at_ 0 0 rfl) rfl) ?_
            refine VD.pure 10 rfl (by kernel_rfl) rfl rfl (p_moveI rfl) ?_
            refine VD.pure 11 rfl (by kernel_rfl) rfl rfl (p_idxN Try.underlying107 Try.sizeOf112 rfl rfl hi') ?_
            refine VD.pure 12 rfl (by kernel_rfl) rfl rfl (p_field (fo := 1) Try.underlying112 rfl Try.sizeOf22 rfl rfl rfl) ?_
            refine VD.pure 14 rfl (by kernel_rfl) rfl rfl (p_moveI rfl) ?_
            refine VD.turn2 5 13 (by kernel_rfl) ?_ ?_
            refine VDT.new hm rfl rfl rfl (n_buildSlice0 Try.underlying22 inf5) (fun b' w' hm' => Kept.mem hm' (by simp)) ?_
            intro b5 w hm
            refine VD.turn1 13 (by kernel_rfl) ?_
            refine VDT.val rfl rfl rfl (r_load (v := .slice _ _ _) Try.isAgg22 rfl (hm.at_ 2 0 rfl) (hcell 1 (by decide))) (Kept.mem hm (by simp)) ?_
            refine VD.pure 15 rfl (by kernel_rfl) rfl rfl (p_sliceHN (h := k) Try.underlying22 Try.sizeOf5 rfl rfl (by omega)) ?_
            refine VD.turn1 16 (by kernel_rfl) ?_
            refine VDT.append (s := 1) (bytes := 1) Try.underlying22 inf5 rfl rfl rfl rfl rfl rfl rfl rfl rfl rfl hm (OwnS.made (c := 0) (by unfold maxLen; omega) rfl) (hrow.mono hm.fix) (bytes_one _) (Nat.zero_add k) ⟨by unfold maxLen; omega, by omega⟩ (fun A' c' w' L' ho' hm' => Kept.mem hm' (by simp)) ?_
            intro A16 c16 w L16 ho16 hm
            refine VD.pure 17 rfl (by kernel_rfl) rfl rfl (p_idxN Try.underlying107 Try.sizeOf112 rfl rfl hi') ?_
            refine VD.pure 18 rfl (by kernel_rfl) rfl rfl (p_field (fo := 1) Try.underlying112 rfl Try.sizeOf22 rfl rfl rfl) ?_
            refine VD.turn1 19 (by kernel_rfl) ?_
            refine VDT.store (cs' := (cur.setIfInBounds (0 + i * 3 + 1) (.slice A16 k c16))) (v := .slice _ _ _) Try.sizeOf22 rfl rfl rfl rfl rfl rfl hm 2 0 rfl (by omega) rfl (fun w' hm' => Kept.mem hm' (.tail _ (.head _))) ?_
            intro w hm
            refine VD.nil (by kernel_rfl) rfl ?_
            rotate_left 1
            refine VDT.val rfl rfl rfl (r_load (v := .slice _ _ _) Try.isAgg22 rfl (hm.at_ 1 0 rfl) (hcell 1 (by decide))) (Kept.mem hm (by simp)) ?_
            refine VD.pure 15 rfl (by kernel_rfl) rfl rfl (p_sliceHN (h := k) Try.underlying22 Try.sizeOf5 rfl rfl (by omega)) ?_
            refine VD.turn1 5 (by kernel_rfl) ?_
            refine VDT.new hm rfl rfl rfl (n_buildSlice0 Try.underlying22 inf5) (fun b' w' hm' => Kept.mem hm' (by simp)) ?_
            intro b5 w hm
            refine VD.turn1 16 (by kernel_rfl) ?_
            refine VDT.append (s := 1) (bytes := 1) Try.underlying22 inf5 rfl rfl rfl rfl rfl rfl rfl rfl rfl rfl hm (OwnS.made (c := 0) (by unfold maxLen; omega) rfl) (hrow.mono hm.fix) (bytes_one _) (Nat.zero_add k) ⟨by unfold maxLen; omega, by omega⟩ (fun A' c' w' L' ho' hm' => Kept.mem hm' (by simp)) ?_
            intro A16 c16 w L16 ho16 hm
            refine VD.pure 17 rfl (by kernel_rfl) rfl rfl (p_idxN Try.underlying107 Try.sizeOf112 rfl rfl hi') ?_
            refine VD.pure 18 rfl (by kernel_rfl) rfl rfl (p_field (fo := 1) Try.underlying112 rfl Try.sizeOf22 rfl rfl rfl) ?_
            refine VD.turn1 19 (by kernel_rfl) ?_
            refine VDT.store (cs' := (cur.setIfInBounds (0 + i * 3 + 1) (.slice A16 k c16))) (v := .slice _ _ _) Try.sizeOf22 rfl rfl rfl rfl rfl rfl hm 2 0 rfl (by omega) rfl (fun w' hm' => Kept.mem hm' (.tail _ (.head _))) ?_
            intro w hm
            refine VD.nil (by kernel_rfl) rfl ?_
            rotate_left 1
            all_goals exact ⟨(A16, c16, L16), ⟨rfl, rfl, rfl, trivial⟩, ho16, hm⟩
          clear hm
          rintro ⟨A16, c16, L16⟩ A3 w ⟨ho16, hm⟩
          dsimp only at ho16 hm
          obtain ⟨G, hu, hm, hL16⟩ := hm.freeze
          have hr16 := ho16.row1 hL16
          have hc16 := ho16.le
          repeat (first | refine VC.seq ?_ | refine VC.block ?_ | refine VC.skip ?_)
          refine VC.region ?_
          refine VR.pure rfl rfl (p_moveP rfl) ?_
          refine VR.pure rfl rfl (p_nilCheck rfl) ?_
          refine VR.pure rfl rfl (p_field (fo := 1) Try.underlying109 rfl Try.sizeOf107 rfl rfl rfl) ?_
          refine VR.val rfl rfl (r_load (v := .slice _ _ _) Try.isAgg107 rfl (hm.at_ 0 0 rfl) rfl) ?_
          refine VR.pure rfl rfl (p_moveI rfl) ?_
          refine VR.pure rfl rfl (p_moveI rfl) ?_
          refine VR.pure rfl rfl (p_idxN Try.underlying107 Try.sizeOf112 rfl rfl hi') ?_
          refine VR.pure rfl rfl (p_field (fo := 2) Try.underlying112 rfl Try.sizeOf3 rfl rfl rfl) ?_
          refine VR.store (cs' := ((cur.setIfInBounds (0 + i * 3 + 1) (.slice A16 k c16)).setIfInBounds (0 + i * 3 + 2) (.int .i64 k))) (v := .int _ _) Try.sizeOf3 rfl rfl rfl rfl rfl hm 1 0 rfl (by rw [Array.size_setIfInBounds]; omega) rfl ?_
          intro w hm
          refine VR.nil ?_
          repeat (first | refine VC.seq ?_ | refine VC.block ?_ | refine VC.skip ?_)
          refine VC.region ?_
          refine VR.pure rfl rfl (p_assignI rfl) ?_
          refine VR.nil ?_
          repeat (first | refine VC.seq ?_ | refine VC.block ?_ | refine VC.skip ?_)
          refine VC.ret ⟨_, ResOf.r1 (v := .int _ _) rfl rfl, ?_⟩
          refine ⟨G, rs.set i { f with A := A16, n := k, c := c16, l := f.l.take k, sy := (k : Int) }, rfl, List.Perm.of_eq ?_, hasc.set hi rfl, hu, some ⟨gl, 0, none⟩, c, [(gl, .cells ((cur.setIfInBounds (0 + i * 3 + 1) (.slice A16 k c16)).setIfInBounds (0 + i * 3 + 2) (.int .i64 k)) 112 (0, 0))], ?_, fun x hx => ?_, ?_⟩
          · rw [← hf]
            exact updA_rs hasc hi (by show _ = cutF (k : Int).toNat f.abs; rw [Int.toNat_natCast]; rfl)
          · show OwnS _ 3 _ (rs.set i _).length c (rcells (rs.set i _)) _
            rw [List.length_set, ← rcells_put2 (v := .int .i64 k) hi rfl rfl]
            exact (ho.put _).put _
          · rcases List.mem_or_eq_of_mem_set hx with hx | rfl
            · exact (hok x hx).mono hu.heap
            · exact ⟨hr16, ⟨hc16.1, by show k ≤ _; omega⟩, by show (0 : Int) ≤ k ∧ (k : Int) ≤ k; omega⟩
          · unfold rdisk
            rw [List.length_set]
            exact hm
  · have hcut : cutD ⟨room, absR rs⟩ s n = (6, ⟨room, absR rs⟩) := by
      unfold cutD
      show (match inA (absR rs) s with | some f => _ | none => _) = _
      rw [hin]
    rw [hcut]
    repeat (first | refine VC.seq ?_ | refine VC.block ?_ | refine VC.skip ?_)
    refine VC.condD rfl (fun h2 => ?_) (fun h2 => ?_)
    · repeat (first | refine VC.seq ?_ | refine VC.block ?_ | refine VC.skip ?_)
      refine VC.region ?_
      refine VR.pure rfl rfl (p_assignI rfl) ?_
      refine VR.nil ?_
      repeat (first | refine VC.seq ?_ | refine VC.block ?_ | refine VC.skip ?_)
      refine VC.ret ⟨_, ResOf.r1 (v := .int _ _) rfl rfl, ?_⟩
      exact ⟨F, rs, rfl, List.Perm.refl _, hasc, Env.under_refl _, A, c, L, ho, hok, hm⟩
    · omega
/-- How far a disk has crashed. -/
def crashR (keep : Int) (rs : List Rf) (i : Nat) : List Fa := ((absR rs).take i).map (fun f => cutF (keepN keep f) f) ++ (absR rs).drop i
set_option maxHeartbeats 8000000 in
theorem rcrash_c {keep : Int} (hm : RMem F w g room rs Ls) (hl : rs.length ≤ 1000) (hasc : AscN rs) :
    Calls Try.prog 38 #[.pointer (some ⟨g, 0, none⟩), .int .i64 keep] w (Ret fun v w' => ∃ G rs', absR rs' = (crashD ⟨room, absR rs⟩ keep).fs ∧ AscN rs' ∧ F.under G ∧ RMem G w' g room rs' Ls) := by
  refine Calls.of_vc Try.func38 rfl Try.ntmps38 rfl ?_
  repeat (first | refine VC.seq ?_ | refine VC.block ?_ | refine VC.skip ?_)
  refine VC.region ?_
  refine VR.pure rfl rfl (p_assignI rfl) ?_
  refine VR.nil ?_
  repeat (first | refine VC.seq ?_ | refine VC.block ?_ | refine VC.skip ?_)
  refine VC.loop (σ := Nat × Env × List Rf) (fun s => [(0, .pointer (some ⟨g, 0, none⟩)), (1, .int .i64 keep), (4, .int .i64 s.1)])
    (fun s w => s.1 ≤ rs.length ∧ F.under s.2.1 ∧ s.2.2.length = rs.length ∧ AscN s.2.2 ∧ absR s.2.2 = crashR keep rs s.1 ∧ RMem s.2.1 w g room s.2.2 Ls) (fun s => rs.length - s.1) (0, F, rs) ⟨rfl, rfl, rfl, trivial⟩
    ⟨by omega, Env.under_refl _, rfl, hasc, by unfold crashR; rw [List.take_zero]; rfl, hm⟩ ?_
  clear hm
  rintro ⟨i, G, ys⟩ A1 w ⟨hi, hu, hyl, hyasc, hyabs, hm⟩
  dsimp only at hi hu hyl hyasc hyabs hm ⊢
  obtain ⟨A, c, L, ho, hok, hm⟩ := hm
  repeat (first | refine VC.seq ?_ | refine VC.block ?_ | refine VC.skip ?_)
  refine VC.region ?_
  refine VR.pure rfl rfl (p_moveI rfl) ?_
  refine VR.pure rfl rfl (p_moveP rfl) ?_
  refine VR.pure rfl rfl (p_nilCheck rfl) ?_
  refine VR.pure rfl rfl (p_field (fo := 1) Try.underlying109 rfl Try.sizeOf107 rfl rfl rfl) ?_
  refine VR.val rfl rfl (r_load (v := .slice _ _ _) Try.isAgg107 rfl (hm.at_ 0 0 rfl) rfl) ?_
  refine VR.pure rfl rfl (p_len Try.underlying107 rfl) ?_
  refine VR.pure rfl rfl (p_lt rfl rfl) ?_
  refine VR.nil ?_
  repeat (first | refine VC.seq ?_ | refine VC.block ?_ | refine VC.skip ?_)
  refine VC.condD rfl (fun h1 => ?_) (fun h1 => ?_)
  · have hi' : i < rs.length := by omega
    have hiy : i < ys.length := by omega
    obtain ⟨f, hf, hfm⟩ := get_of (xs := ys) (k := i) hiy
    have hfo := hok f hfm
    have hfl := hfo.len
    have hfle := hfo.le
    have hfsy := hfo.sy
    obtain ⟨gl, cur, rfl, rfl⟩ := ho.lit hiy
    obtain ⟨hcell, hsz⟩ := ho.cell hf
    have hfa : (absR rs)[i]? = some f.abs := by
      have h2 : (absR ys)[i]? = some f.abs := by rw [List.getElem?_map, hf]; rfl
      rw [hyabs] at h2
      unfold crashR at h2
      rw [List.getElem?_append_right (by rw [List.length_map, List.length_take]; omega), List.length_map, List.length_take, List.length_map, Nat.min_eq_left hi, Nat.sub_self, List.getElem?_drop, Nat.add_zero] at h2
      exact h2
    repeat (first | refine VC.seq ?_ | refine VC.block ?_ | refine VC.skip ?_)
    repeat (first | refine VC.seq ?_ | refine VC.block ?_ | refine VC.skip ?_)
    refine VC.region ?_
    refine VR.pure rfl rfl (p_moveP rfl) ?_
    refine VR.pure rfl rfl (p_nilCheck rfl) ?_
    refine VR.pure rfl rfl (p_field (fo := 1) Try.underlying109 rfl Try.sizeOf107 rfl rfl rfl) ?_
    refine VR.val rfl rfl (r_load (v := .slice _ _ _) Try.isAgg107 rfl (hm.at_ 0 0 rfl) rfl) ?_
    refine VR.pure rfl rfl (p_moveI rfl) ?_
    refine VR.pure rfl rfl (p_idxN Try.underlying107 Try.sizeOf112 rfl rfl hiy) ?_
    refine VR.pure rfl rfl (p_assignP rfl) ?_
    refine VR.nil ?_
    obtain ⟨k, hk, hkn, hke⟩ : ∃ k : Nat, f.sy + min (max keep 0) ((f.n : Int) - f.sy) = k ∧ k ≤ f.n ∧ keepN keep f.abs = k := by
      refine ⟨(f.sy + min (max keep 0) ((f.n : Int) - f.sy)).toNat, by omega, by omega, ?_⟩
      unfold keepN
      show (f.sy + min (max keep 0) ((f.l.length : Int) - f.sy)).toNat = _
      rw [hfl]
    have hrow := row_head hfo.row hkn
    repeat (first | refine VC.seq ?_ | refine VC.block ?_ | refine VC.skip ?_)
    refine VC.loud (Kept G ([(g, rdisk room ys (some ⟨gl, 0, none⟩) c)] :: [(gl, .cells cur 112 (0, 0))] :: Ls)) [] rfl (by kernel_rfl) (Kept.here0 hm.drew) ?_
    replace hm := hm.drew
    refine VL.pure rfl rfl rfl (p_moveP rfl) ?_
    refine VL.pure rfl rfl rfl (p_nilCheck rfl) ?_
    refine VL.pure rfl rfl rfl (p_field (fo := 2) Try.underlying112 rfl Try.sizeOf3 rfl rfl rfl) ?_
    refine VL.read rfl rfl rfl (fun w' hw' => r_load (v := .int _ _) Try.isAgg3 rfl (hw'.at_ 1 0 rfl) (hcell 2 (by decide))) ?_
    refine VL.pure rfl rfl rfl (p_moveI rfl) ?_
    refine VL.pure rfl rfl rfl (p_max rfl rfl) ?_
    refine VL.pure rfl rfl rfl (p_moveP rfl) ?_
    refine VL.pure rfl rfl rfl (p_nilCheck rfl) ?_
    refine VL.pure rfl rfl rfl (p_field (fo := 1) Try.underlying112 rfl Try.sizeOf22 rfl rfl rfl) ?_
    refine VL.read rfl rfl rfl (fun w' hw' => r_load (v := .slice _ _ _) Try.isAgg22 rfl (hw'.at_ 1 0 rfl) (hcell 1 (by decide))) ?_
    refine VL.pure rfl rfl rfl (p_len Try.underlying22 rfl) ?_
    refine VL.pure rfl rfl rfl (p_moveP rfl) ?_
    refine VL.pure rfl rfl rfl (p_nilCheck rfl) ?_
    refine VL.pure rfl rfl rfl (p_field (fo := 2) Try.underlying112 rfl Try.sizeOf3 rfl rfl rfl) ?_
    refine VL.read rfl rfl rfl (fun w' hw' => r_load (v := .int _ _) Try.isAgg3 rfl (hw'.at_ 1 0 rfl) (hcell 2 (by decide))) ?_
    refine VL.pure rfl rfl rfl (p_sub64 rfl rfl (by omega)) ?_
    refine VL.pure rfl rfl rfl (p_min rfl rfl) ?_
    refine VL.pure rfl rfl rfl (p_add64E (r := (k : Int)) rfl rfl hk (by omega)) ?_
    refine VL.pure rfl rfl rfl (p_assignI rfl) ?_
    refine VL.nil ?_
    repeat (first | refine VC.seq ?_ | refine VC.block ?_ | refine VC.skip ?_)
    refine VC.region ?_
    refine VR.pure rfl rfl (p_moveP rfl) ?_
    refine VR.new hm rfl rfl (n_buildSlice0 Try.underlying22 inf5) ?_
    intro b5 w hm
    refine VR.pure rfl rfl (p_moveP rfl) ?_
    refine VR.pure rfl rfl (p_nilCheck rfl) ?_
    refine VR.pure rfl rfl (p_field (fo := 1) Try.underlying112 rfl Try.sizeOf22 rfl rfl rfl) ?_
    refine VR.val rfl rfl (r_load (v := .slice _ _ _) Try.isAgg22 rfl (hm.at_ 2 0 rfl) (hcell 1 (by decide))) ?_
    refine VR.pure rfl rfl (p_moveI rfl) ?_
    refine VR.pure rfl rfl (p_sliceHN (h := k) Try.underlying22 Try.sizeOf5 rfl rfl (by omega)) ?_
    refine VR.append (s := 1) (bytes := 1) Try.underlying22 inf5 rfl rfl rfl rfl rfl rfl rfl rfl rfl hm (OwnS.made (c := 0) (by unfold maxLen; omega) rfl) (hrow.mono hm.fix) (bytes_one _) (Nat.zero_add k) ⟨by unfold maxLen; omega, by omega⟩ ?_
    intro A8 c8 w L8 ho8 hm
    refine VR.pure rfl rfl (p_nilCheck rfl) ?_
    refine VR.pure rfl rfl (p_field (fo := 1) Try.underlying112 rfl Try.sizeOf22 rfl rfl rfl) ?_
    refine VR.store (cs' := (cur.setIfInBounds (0 + i * 3 + 1) (.slice A8 k c8))) (v := .slice _ _ _) Try.sizeOf22 rfl rfl rfl rfl rfl hm 2 0 rfl (by omega) rfl ?_
    intro w hm
    refine VR.nil ?_
    obtain ⟨G2, hu2, hm, hL8⟩ := hm.freeze
    have hr8 := ho8.row1 hL8
    have hc8 := ho8.le
    repeat (first | refine VC.seq ?_ | refine VC.block ?_ | refine VC.skip ?_)
    refine VC.region ?_
    refine VR.pure rfl rfl (p_moveP rfl) ?_
    refine VR.pure rfl rfl (p_moveI rfl) ?_
    refine VR.pure rfl rfl (p_nilCheck rfl) ?_
    refine VR.pure rfl rfl (p_field (fo := 2) Try.underlying112 rfl Try.sizeOf3 rfl rfl rfl) ?_
    refine VR.store (cs' := ((cur.setIfInBounds (0 + i * 3 + 1) (.slice A8 k c8)).setIfInBounds (0 + i * 3 + 2) (.int .i64 k))) (v := .int _ _) Try.sizeOf3 rfl rfl rfl rfl rfl hm 1 0 rfl (by rw [Array.size_setIfInBounds]; omega) rfl ?_
    intro w hm
    refine VR.nil ?_
    repeat (first | refine VC.seq ?_ | refine VC.block ?_ | refine VC.skip ?_)
    refine VC.region ?_
    refine VR.pure rfl rfl (p_moveI rfl) ?_
    refine VR.pure rfl rfl (p_add64 rfl rfl (by omega)) ?_
    refine VR.pure rfl rfl (p_assignI rfl) ?_
    refine VR.nil ?_
    refine ⟨(i + 1, G2, ys.set i { f with A := A8, n := k, c := c8, l := f.l.take k, sy := (k : Int) }), ⟨rfl, rfl, rfl, trivial⟩, ⟨by omega, hu.trans hu2, by rw [List.length_set]; exact hyl, hyasc.set hf rfl, ?_, some ⟨gl, 0, none⟩, c, [(gl, .cells ((cur.setIfInBounds (0 + i * 3 + 1) (.slice A8 k c8)).setIfInBounds (0 + i * 3 + 2) (.int .i64 k)) 112 (0, 0))], ?_, fun x hx => ?_, ?_⟩, by omega⟩
    · show (ys.set i _).map Rf.abs = crashR keep rs (i + 1)
      rw [List.map_set, show ys.map Rf.abs = _ from hyabs]
      unfold crashR
      have hal : (absR rs).length = rs.length := List.length_map _
      rw [List.take_add_one, hfa, List.map_append, List.set_append_right _ _ (by rw [List.length_map, List.length_take]; omega), List.length_map, List.length_take, Nat.min_eq_left (by omega), Nat.sub_self, List.append_assoc]
      congr 1
      have hd : (absR rs).drop i = f.abs :: (absR rs).drop (i + 1) := by
        rw [List.drop_eq_getElem_cons (by omega)]
        congr 1
        exact Option.some.inj ((List.getElem?_eq_getElem (by omega)).symm.trans hfa)
      rw [hd]
      show _ :: _ = _ :: _
      congr 1
      show _ = cutF (keepN keep f.abs) f.abs
      rw [hke]
      rfl
    · show OwnS _ 3 _ (ys.set i _).length c (rcells (ys.set i _)) _
      rw [List.length_set, ← rcells_put2 (v := .int .i64 k) hf rfl rfl]
      exact (ho.put _).put _
    · rcases List.mem_or_eq_of_mem_set hx with hx | rfl
      · exact (hok x hx).mono hu2.heap
      · exact ⟨hr8, ⟨hc8.1, by show k ≤ _; omega⟩, by show (0 : Int) ≤ k ∧ (k : Int) ≤ k; omega⟩
    · unfold rdisk
      rw [List.length_set]
      exact hm
  · repeat (first | refine VC.seq ?_ | refine VC.block ?_ | refine VC.skip ?_)
    refine VC.exit ?_
    have hin : i = rs.length := by omega
    subst hin
    refine ⟨_, ResOf.r0 rfl, G, ys, ?_, hyasc, hu, A, c, L, ho, hok, hm⟩
    rw [hyabs]
    unfold crashR crashD
    have hal : (absR rs).length = rs.length := List.length_map _
    rw [List.take_of_length_le (by omega), List.drop_of_length_le (by omega), List.append_nil]
end
end Go.Bd
