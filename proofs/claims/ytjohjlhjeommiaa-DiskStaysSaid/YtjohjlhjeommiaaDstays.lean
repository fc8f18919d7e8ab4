/- DiskStays: what was cut, renamed or removed stays so through a crash. Conditions: none. -/
import Derived.Test.Ytjohjlhjeommiaa08h
import Derived.Test.Ytjohjlhjeommiaa08k
import Derived.Test.YtjohjlhjeommiaaOpen
namespace Go.Bd
open Go.Proofs Go.ChangeShapes Go.WideShapes
set_option linter.unusedVariables false
set_option maxRecDepth 20000

abbrev nN : ByteArray := ⟨#[110, 101, 119]⟩
theorem nA_ok : nameOk nA = true := by kernel_rfl
theorem nN_ok : nameOk nN = true := by kernel_rfl
theorem nA_nN : ¬ nA = nN := by decide
theorem nN_nA : ¬ nN = nA := by decide
theorem inA_perm {a b : List Fa} {s : ByteArray} (h : a.Perm b) (hp : Apart b) : inA a s = inA b s := by
  have hpa : Apart a := (h.pairwise_iff (fun hne e => hne e.symm)).2 hp
  cases hb : inA b s with
  | none =>
    refine inA_none fun f hf e => ?_
    unfold inA at hb
    rw [List.find?_eq_none] at hb
    exact hb f (h.subset hf) (decide_eq_true e)
  | some f =>
    have h1 : f ∈ b := List.mem_of_find?_eq_some hb
    have h2 : f.1 = s := of_decide_eq_true (List.find?_some (p := fun f : Fa => decide (f.1 = s)) hb)
    obtain ⟨i, hi, e⟩ := List.mem_iff_getElem.1 (h.symm.subset h1)
    have := inA_at hpa (show a[i]? = some f by rw [List.getElem?_eq_getElem hi, e])
    rwa [h2] at this
theorem ds1 {was : List Int} (h : was.length ≤ 5000) : appD ⟨1048576, []⟩ nA was = (0, ⟨1048576, [(nA, was, 0)]⟩) := by
  unfold appD
  rw [if_pos nA_ok, show inA [] nA = none from rfl]
  show (if 4194304 < was.length then _ else if (1048576 : Int) - 0 < was.length then _ else _) = _
  rw [if_neg (by omega), if_neg (by omega)]
  rfl
theorem ds2 {was : List Int} : syncD ⟨1048576, [(nA, was, 0)]⟩ nA = (0, ⟨1048576, [(nA, was, was.length)]⟩) := by simp [syncD, inA, updA]
theorem ds3 {was now : List Int} (h : was.length ≤ 5000) (h2 : now.length ≤ 5000) : appD ⟨1048576, [(nA, was, was.length)]⟩ nN now = (0, ⟨1048576, [(nA, was, was.length), (nN, now, 0)]⟩) := by
  unfold appD
  rw [if_pos nN_ok, show inA [(nA, was, (was.length : Int))] nN = none from inA_none fun f hf => by rw [List.mem_singleton.1 hf]; exact nA_nN]
  show (if 4194304 < now.length then _ else if (1048576 : Int) - ((was.length : Int) + 0) < now.length then _ else _) = _
  rw [if_neg (by omega), if_neg (by omega)]
  rfl
theorem ds4 {fs : List Fa} {was now : List Int} {keep : Int} (h : fs.Perm [(nA, was, (was.length : Int)), (nN, now, 0)]) : readA (crashD ⟨1048576, fs⟩ keep) nA = (0, was) := by
  have hk : keepN keep (nA, was, (was.length : Int)) = was.length := by unfold keepN; dsimp only; omega
  have hap : Apart ([(nA, was, (was.length : Int)), (nN, now, 0)].map fun f => cutF (keepN keep f) f) := by
    simp [cutF, nA_nN]
  have e1 : inA (crashD ⟨1048576, fs⟩ keep).fs nA = inA ([(nA, was, (was.length : Int)), (nN, now, 0)].map fun f => cutF (keepN keep f) f) nA := inA_perm (h.map _) hap
  unfold readA
  rw [e1]
  have e2 : inA ([(nA, was, (was.length : Int)), (nN, now, 0)].map fun f => cutF (keepN keep f) f) nA = some (nA, was, (was.length : Int)) := by
    rw [List.map_cons]
    unfold inA
    rw [List.find?_cons, decide_eq_true (show (cutF (keepN keep (nA, was, (was.length : Int))) (nA, was, (was.length : Int))).1 = nA from rfl)]
    unfold cutF
    rw [hk]
    show some (nA, was.take was.length, ((was.length : Nat) : Int)) = _
    rw [List.take_length]
  rw [e2]
theorem ds5 {was now : List Int} : syncD ⟨1048576, [(nA, was, was.length), (nN, now, 0)]⟩ nN = (0, ⟨1048576, [(nA, was, was.length), (nN, now, now.length)]⟩) := by simp [syncD, inA, updA, nA_nN]
theorem ds6 {was now : List Int} {sy : Int} : renD ⟨1048576, [(nA, was, was.length), (nN, now, sy)]⟩ nN nA = (0, ⟨1048576, [(nA, now, sy)]⟩) := by
  simp [renD, nA_ok, nN_ok, inA, delA, nA_nN, nN_nA]
theorem ds7 {now : List Int} {sy keep : Int} {k : Nat} (hk : keepN keep (nA, now, sy) = k) : crashD ⟨1048576, [(nA, now, sy)]⟩ keep = ⟨1048576, [(nA, now.take k, (k : Int))]⟩ := by
  unfold crashD cutF
  simp only [List.map_cons, List.map_nil, hk]
theorem ds8 {now : List Int} {sy : Int} : readA ⟨1048576, [(nA, now, sy)]⟩ nA = (0, now) := by simp [readA, inA]
theorem ds9 {l : List Int} {sy : Int} {i : Nat} (h : i ≤ l.length) : cutD ⟨1048576, [(nA, l, sy)]⟩ nA i = (0, ⟨1048576, [(nA, l.take i, (i : Int))]⟩) := by
  unfold cutD
  rw [show inA [(nA, l, sy)] nA = some (nA, l, sy) by simp [inA]]
  show (if (i : Int) < 0 ∨ (l.length : Int) < i then _ else _) = _
  rw [if_neg (by omega), Int.toNat_natCast]
  simp [updA, cutF]
theorem delFl_all {fs : List Fl} (h : ∀ f ∈ fs, f.name = nA) : delFl fs nA = [] := List.filter_eq_nil_iff.2 fun f hf => by simp [h f hf]
theorem BRow.left {H : Nat → Option Obj} {A : Option Addr} {n k : Nat} {l : List Int} (h : BRow H A n l) (hk : k ≤ n) : BRow H A k (l.take k) := by
  have h1 := Row.take h (k := k) hk
  rwa [← List.map_take] at h1
theorem Mem.dropA {F : Env} {w : World} {A B : List Blks} (h : Mem F w (A ++ B)) : Mem F w B := h.subF (by simp)
theorem fs_len {D : Dk} {d : Da} (h : D.abs = d) : D.fs.length = d.fs.length := by
  have := congrArg (fun d => d.fs.length) h
  have h2 : (D.fs.map Fl.abs).length = d.fs.length := this
  rwa [List.length_map] at h2

set_option maxHeartbeats 8000000 in
theorem disk_stays_c {F : Env} {w : World} {A B : Option Addr} {n c q d : Nat} {was now : List Int} {keep : Int} {syn : Bool} (hm : Mem F w []) (hr : BRow F.heap A n was) (hqd : q ≤ d) (hs : BRow F.heap B q now) :
    Calls Try.prog 3 #[.slice A n c, .slice B q d, .int .i64 keep, .bool syn] w (Ret fun v w' => v = .bool true ∧ Mem F w' []) := by
  have hl := hr.len
  have hl2 := hs.len
  refine Calls.of_vc Try.func3 rfl Try.ntmps3 rfl ?_
  repeat (first | refine VC.seq ?_ | refine VC.block ?_ | refine VC.skip ?_)
  refine VC.region ?_
  refine VR.pure rfl rfl (p_assignB rfl) ?_
  refine VR.nil ?_
  repeat (first | refine VC.seq ?_ | refine VC.block ?_ | refine VC.skip ?_)
  refine VC.region ?_
  refine VR.call rfl rfl (r_call0 Try.call10) (awake_c hm) ?_
  rintro _ w ⟨rfl, hm⟩
  refine VR.pure rfl rfl (p_not rfl) ?_
  refine VR.nil ?_
  repeat (first | refine VC.seq ?_ | refine VC.block ?_ | refine VC.skip ?_)
  refine VC.condF rfl rfl ?_
  repeat (first | refine VC.seq ?_ | refine VC.block ?_ | refine VC.skip ?_)
  refine VC.region ?_
  refine VR.pure rfl rfl (p_moveL rfl) ?_
  refine VR.pure rfl rfl (p_len Try.underlying22 rfl) ?_
  refine VR.pure rfl rfl (p_gt rfl rfl) ?_
  refine VR.pure rfl rfl (p_moveB rfl) ?_
  refine VR.splitD 21 rfl (fun h3 => ?_) (fun h3 => ?_)
  refine VR.pass rfl rfl ?_
  refine VR.pass rfl rfl ?_
  refine VR.pass rfl rfl ?_
  refine VR.pure rfl rfl (p_pickT rfl rfl) ?_
  refine VR.nil ?_
  rotate_left 1
  refine VR.pureG rfl rfl (p_moveL rfl) ?_
  refine VR.pureG rfl rfl (p_len Try.underlying22 rfl) ?_
  refine VR.pureG rfl rfl (p_gt rfl rfl) ?_
  refine VR.pure rfl rfl (p_pickF rfl rfl) ?_
  refine VR.nil ?_
  rotate_left 1
  · repeat (first | refine VC.seq ?_ | refine VC.block ?_ | refine VC.skip ?_)
    refine VC.condT rfl rfl ?_
    repeat (first | refine VC.seq ?_ | refine VC.block ?_ | refine VC.skip ?_)
    refine VC.region ?_
    refine VR.pure rfl rfl (p_assignB rfl) ?_
    refine VR.nil ?_
    repeat (first | refine VC.seq ?_ | refine VC.block ?_ | refine VC.skip ?_)
    refine VC.ret ⟨_, ResOf.r1 (v := .bool _) rfl rfl, ?_⟩
    exact ⟨rfl, hm⟩
  · repeat (first | refine VC.seq ?_ | refine VC.block ?_ | refine VC.skip ?_)
    refine VC.condD rfl (fun h6 => ?_) (fun h6 => ?_)
    · repeat (first | refine VC.seq ?_ | refine VC.block ?_ | refine VC.skip ?_)
      refine VC.region ?_
      refine VR.pure rfl rfl (p_assignB rfl) ?_
      refine VR.nil ?_
      repeat (first | refine VC.seq ?_ | refine VC.block ?_ | refine VC.skip ?_)
      refine VC.ret ⟨_, ResOf.r1 (v := .bool _) rfl rfl, ?_⟩
      exact ⟨rfl, hm⟩
    · have hwl : was.length ≤ 5000 := by omega
      have hnl : now.length ≤ 5000 := by omega
      repeat (first | refine VC.seq ?_ | refine VC.block ?_ | refine VC.skip ?_)
      refine VC.region ?_
      refine VR.call rfl rfl (r_call1 Try.call11 rfl) (new_c hm (by decide)) ?_
      rintro _ w ⟨g, m, D0, rfl, ha0, hD0, hm⟩
      refine VR.pure rfl rfl (p_assignP rfl) ?_
      refine VR.nil ?_
      replace hm : Mem F w (dkB g m D0) := by simpa using hm
      have e0 : D0.abs = ⟨1048576, []⟩ := ha0
      repeat (first | refine VC.seq ?_ | refine VC.block ?_ | refine VC.skip ?_)
      refine VC.region ?_
      refine VR.pure rfl rfl (p_moveP rfl) ?_
      refine VR.pure rfl rfl (p_moveL rfl) ?_
      refine VR.call rfl rfl (r_call3 Try.call12 rfl rfl rfl) (append_c hm hD0 (by decide) (by omega) hr) ?_
      rintro _ w ⟨D1, rfl, ha1, hD1, hm⟩
      refine VR.nil ?_
      have e1 : D1.abs = ⟨1048576, [(nA, was, 0)]⟩ := by rw [ha1, e0, ds1 hwl]
      repeat (first | refine VC.seq ?_ | refine VC.block ?_ | refine VC.skip ?_)
      refine VC.region ?_
      refine VR.pure rfl rfl (p_moveP rfl) ?_
      refine VR.call rfl rfl (r_call2 Try.call13 rfl rfl) (sync_c hm hD1) ?_
      rintro _ w ⟨D2, rfl, ha2, hD2, hm⟩
      refine VR.nil ?_
      have e2 : D2.abs = ⟨1048576, [(nA, was, was.length)]⟩ := by rw [ha2, e1, ds2]
      repeat (first | refine VC.seq ?_ | refine VC.block ?_ | refine VC.skip ?_)
      refine VC.region ?_
      refine VR.pure rfl rfl (p_moveP rfl) ?_
      refine VR.pure rfl rfl (p_moveL rfl) ?_
      refine VR.call rfl rfl (r_call3 Try.call12 rfl rfl rfl) (append_c hm hD2 (by decide) (by omega) hs) ?_
      rintro _ w ⟨D3, rfl, ha3, hD3, hm⟩
      refine VR.nil ?_
      have e3 : D3.abs = ⟨1048576, [(nA, was, was.length), (nN, now, 0)]⟩ := by rw [ha3, e2, ds3 hwl hnl]
      repeat (first | refine VC.seq ?_ | refine VC.block ?_ | refine VC.skip ?_)
      refine VC.region ?_
      refine VR.pure rfl rfl (p_moveP rfl) ?_
      refine VR.call rfl rfl (r_call1 Try.call14 rfl) (copy_c hm hD3) ?_
      rintro _ w ⟨g2, m2, D4, rfl, hroom4, hperm4, hD4, hm⟩
      refine VR.pure rfl rfl (p_assignP rfl) ?_
      refine VR.nil ?_
      repeat (first | refine VC.seq ?_ | refine VC.block ?_ | refine VC.skip ?_)
      refine VC.region ?_
      refine VR.pure rfl rfl (p_moveP rfl) ?_
      refine VR.pure rfl rfl (p_moveI rfl) ?_
      refine VR.call rfl rfl (r_call2 Try.call15 rfl rfl) (crash_c (keep := keep) hm.focus hD4) ?_
      rintro v10 w ⟨D5, ha5, hD5, hm'⟩
      replace hm := hm.unL hm'
      refine VR.nil ?_
      repeat (first | refine VC.seq ?_ | refine VC.block ?_ | refine VC.skip ?_)
      refine VC.region ?_
      refine VR.pure rfl rfl (p_moveP rfl) ?_
      refine VR.call rfl rfl (r_call2 Try.call16 rfl rfl) (read_c hm.focus hD5) ?_
      rintro _ w ⟨A6, n6, c6, L6, rfl, ho6, hn6, hm'⟩
      replace hm := hm.unL hm'
      refine VR.pure rfl rfl (p_moveT rfl) ?_
      refine VR.pure rfl rfl (p_extract rfl rfl) ?_
      refine VR.pure rfl rfl (p_extract rfl rfl) ?_
      refine VR.pure rfl rfl (p_assignL rfl) ?_
      refine VR.pure rfl rfl (p_assignI rfl) ?_
      refine VR.nil ?_
      have e5 : readA D5.abs nA = (0, was) := by
        rw [ha5]
        have h1 : D4.abs = ⟨1048576, D4.fs.map Fl.abs⟩ := by
          unfold Dk.abs
          rw [hroom4, show D3.room = 1048576 from congrArg Da.room e3]
        rw [h1]
        exact ds4 (hperm4.trans (by rw [show D3.fs.map Fl.abs = _ from congrArg Da.fs e3]))
      rw [e5] at ho6
      obtain ⟨G1, hu1, hm, hL6⟩ := (show Mem F w (L6 :: (dkB g2 m2 D5 ++ dkB g m D3)) from hm).freeze
      have hr6 := ho6.row1 hL6
      replace hm := hm.dropA
      have k5 : (readA D5.abs nA).1 = 0 := by rw [e5]
      repeat (first | refine VC.seq ?_ | refine VC.block ?_ | refine VC.skip ?_)
      refine VC.region ?_
      refine VR.pure rfl rfl (p_moveI rfl) ?_
      refine VR.pure rfl rfl (p_ne rfl rfl) ?_
      refine VR.pure rfl rfl (p_moveB rfl) ?_
      refine VR.knownF 47 rfl (decide_eq_false (not_not_intro k5)) ?_
      refine VR.pureG rfl rfl (p_moveL rfl) ?_
      refine VR.pureG rfl rfl (p_moveL rfl) ?_
      refine VR.callG rfl rfl (r_call2 Try.call17 rfl rfl) (same_bytes_c hm (by unfold maxLen; omega) hr6 (hr.mono hu1.heap)) ?_
      rintro _ w ⟨rfl, hm⟩
      refine VR.pureG rfl rfl (p_not rfl) ?_
      refine VR.pure rfl rfl (p_pickF rfl rfl) ?_
      refine VR.nil ?_
      repeat (first | refine VC.seq ?_ | refine VC.block ?_ | refine VC.skip ?_)
      refine VC.condF rfl (by rw [decide_eq_true rfl]; rfl) ?_
      repeat (first | refine VC.seq ?_ | refine VC.block ?_ | refine VC.skip ?_)
      refine VC.region ?_
      refine VR.pure rfl rfl (p_moveB rfl) ?_
      refine VR.nil ?_
      repeat (first | refine VC.seq ?_ | refine VC.block ?_ | refine VC.skip ?_)
      refine VC.meet (σ := Dk) (fun s => [(1, .slice B q d), (2, .int .i64 keep), (3, .bool syn), (9, .pointer (some ⟨g, 0, none⟩))]) (fun D w => Mem G1 w (dkB g m D) ∧ DkOk D ∧ D.abs = ⟨1048576, [(nA, was, was.length), (nN, now, if syn = true then (now.length : Int) else 0)]⟩) ?_ ?_
      · cases syn
        · repeat (first | refine VC.seq ?_ | refine VC.block ?_ | refine VC.skip ?_)
          refine VC.condF rfl rfl ?_
          repeat (first | refine VC.seq ?_ | refine VC.block ?_ | refine VC.skip ?_)
          exact ⟨D3, ⟨rfl, rfl, rfl, rfl, trivial⟩, hm, hD3, e3⟩
        · repeat (first | refine VC.seq ?_ | refine VC.block ?_ | refine VC.skip ?_)
          refine VC.condT rfl rfl ?_
          repeat (first | refine VC.seq ?_ | refine VC.block ?_ | refine VC.skip ?_)
          refine VC.region ?_
          refine VR.pure rfl rfl (p_moveP rfl) ?_
          refine VR.call rfl rfl (r_call2 Try.call13 rfl rfl) (sync_c hm hD3) ?_
          rintro _ w ⟨D6, rfl, ha6, hD6, hm⟩
          refine VR.nil ?_
          exact ⟨D6, ⟨rfl, rfl, rfl, rfl, trivial⟩, hm, hD6, by rw [ha6, e3, ds5]; rfl⟩
      clear hm
      rintro D6 A2 w ⟨hm, hD6, e6⟩
      repeat (first | refine VC.seq ?_ | refine VC.block ?_ | refine VC.skip ?_)
      refine VC.region ?_
      refine VR.pure rfl rfl (p_moveP rfl) ?_
      refine VR.call rfl rfl (r_call3 Try.call18 rfl rfl rfl) (rename_c hm hD6 (by decide) (by decide)) ?_
      rintro _ w ⟨D7, rfl, ha7, hD7, hm⟩
      refine VR.pure rfl rfl (p_ne rfl rfl) ?_
      refine VR.nil ?_
      have k7 : (renD D6.abs nN nA).1 = 0 := by rw [e6, ds6]
      have e7 : D7.abs = ⟨1048576, [(nA, now, if syn = true then (now.length : Int) else 0)]⟩ := by rw [ha7, e6, ds6]
      repeat (first | refine VC.seq ?_ | refine VC.block ?_ | refine VC.skip ?_)
      refine VC.condF rfl (decide_eq_false (not_not_intro k7)) ?_
      repeat (first | refine VC.seq ?_ | refine VC.block ?_ | refine VC.skip ?_)
      refine VC.region ?_
      refine VR.pure rfl rfl (p_moveP rfl) ?_
      refine VR.pure rfl rfl (p_moveI rfl) ?_
      refine VR.call rfl rfl (r_call2 Try.call15 rfl rfl) (crash_c (keep := keep) hm hD7) ?_
      rintro v18 w ⟨D8, ha8, hD8, hm⟩
      refine VR.nil ?_
      obtain ⟨k, hk, hkq, hkv⟩ : ∃ k : Nat, keepN keep (nA, now, if syn = true then (now.length : Int) else 0) = k ∧ k ≤ q ∧ (k : Int) = if syn = true then (q : Int) else min (max keep 0) q := by
        refine ⟨_, rfl, ?_, ?_⟩
        · unfold keepN; dsimp only; cases syn <;> simp <;> omega
        · unfold keepN; dsimp only; cases syn <;> simp <;> omega
      have e8 : D8.abs = ⟨1048576, [(nA, now.take k, (k : Int))]⟩ := by rw [ha8, e7, ds7 hk]
      repeat (first | refine VC.seq ?_ | refine VC.block ?_ | refine VC.skip ?_)
      refine VC.region ?_
      refine VR.pure rfl rfl (p_moveP rfl) ?_
      refine VR.call rfl rfl (r_call2 Try.call16 rfl rfl) (read_c hm hD8) ?_
      rintro _ w ⟨A8, n8, c8, L8, rfl, ho8, hn8, hm⟩
      refine VR.pure rfl rfl (p_moveT rfl) ?_
      refine VR.pure rfl rfl (p_extract rfl rfl) ?_
      refine VR.pure rfl rfl (p_extract rfl rfl) ?_
      refine VR.pure rfl rfl (p_assignL rfl) ?_
      refine VR.pure rfl rfl (p_assignI rfl) ?_
      refine VR.nil ?_
      have e8r : readA D8.abs nA = (0, now.take k) := by rw [e8, ds8]
      rw [e8r] at ho8
      have k8 : (readA D8.abs nA).1 = 0 := by rw [e8r]
      obtain ⟨G2, hu2, hm, hL8⟩ := hm.freeze
      have hr8 := ho8.row1 hL8
      have hl8 : n8 = k := by
        have := BRow.len hr8
        rw [List.length_take] at this
        omega
      have hc8 := ho8.le
      repeat (first | refine VC.seq ?_ | refine VC.block ?_ | refine VC.skip ?_)
      refine VC.region ?_
      refine VR.pure rfl rfl (p_moveL rfl) ?_
      refine VR.pure rfl rfl (p_assignL rfl) ?_
      refine VR.nil ?_
      have hsk : BRow G2.heap B k (now.take k) := BRow.left ((hs.mono hu1.heap).mono hu2.heap) hkq
      repeat (first | refine VC.seq ?_ | refine VC.block ?_ | refine VC.skip ?_)
      refine VC.region ?_
      refine VR.pure rfl rfl (p_moveB rfl) ?_
      refine VR.pure rfl rfl (p_not rfl) ?_
      refine VR.nil ?_
      repeat (first | refine VC.seq ?_ | refine VC.block ?_ | refine VC.skip ?_)
      refine VC.meet (σ := Unit) (fun _ => [(2, .int .i64 keep), (9, .pointer (some ⟨g, 0, none⟩)), (11, .slice A8 n8 c8), (12, .int .i64 (readA D8.abs nA).1), (13, .slice B k d)]) (fun _ w => Mem G2 w (dkB g m D8)) ?_ ?_
      · cases syn
        · repeat (first | refine VC.seq ?_ | refine VC.block ?_ | refine VC.skip ?_)
          refine VC.condT rfl rfl ?_
          have hkv' : min (max keep 0) (q : Int) = (k : Int) := by simpa using hkv.symm
          repeat (first | refine VC.seq ?_ | refine VC.block ?_ | refine VC.skip ?_)
          refine VC.region ?_
          refine VR.pure rfl rfl (p_moveL rfl) ?_
          refine VR.pure rfl rfl (p_moveI rfl) ?_
          refine VR.pure rfl rfl (p_max rfl rfl) ?_
          refine VR.pure rfl rfl (p_moveL rfl) ?_
          refine VR.pure rfl rfl (p_len Try.underlying22 rfl) ?_
          refine VR.pure rfl rfl (p_min rfl rfl) ?_
          refine VR.pure rfl rfl (p_sliceHN (h := k) Try.underlying22 Try.sizeOf5 rfl (by show Value.int .i64 (min (max keep 0) (q : Int)) = _; rw [hkv']) (by omega)) ?_
          refine VR.pure rfl rfl (p_assignL rfl) ?_
          refine VR.nil ?_
          exact ⟨(), ⟨rfl, rfl, rfl, rfl, rfl, trivial⟩, hm⟩
        · repeat (first | refine VC.seq ?_ | refine VC.block ?_ | refine VC.skip ?_)
          refine VC.condF rfl rfl ?_
          repeat (first | refine VC.seq ?_ | refine VC.block ?_ | refine VC.skip ?_)
          have hkv' : k = q := by simp at hkv; omega
          exact ⟨(), ⟨rfl, rfl, rfl, rfl, by rw [hkv']; rfl, trivial⟩, hm⟩
      clear hm
      rintro _ A3 w hm
      have hl8' : D8.fs.length ≤ 1000000 := by rw [fs_len e8]; show 1 ≤ 1000000; omega
      have hs8 : sortN (D8.abs.fs.map (·.1)) = [nA] := by rw [e8]; exact sort1 nA
      repeat (first | refine VC.seq ?_ | refine VC.block ?_ | refine VC.skip ?_)
      refine VC.region ?_
      refine VR.pure rfl rfl (p_moveI rfl) ?_
      refine VR.pure rfl rfl (p_ne rfl rfl) ?_
      refine VR.pure rfl rfl (p_moveB rfl) ?_
      refine VR.knownF 79 rfl (decide_eq_false (not_not_intro k8)) ?_
      refine VR.pureG rfl rfl (p_moveL rfl) ?_
      refine VR.pureG rfl rfl (p_moveL rfl) ?_
      refine VR.callG rfl rfl (r_call2 Try.call17 rfl rfl) (same_bytes_c hm (by unfold maxLen; omega) hr8 hsk) ?_
      rintro _ w ⟨rfl, hm⟩
      refine VR.pureG rfl rfl (p_not rfl) ?_
      refine VR.pure rfl rfl (p_pickF rfl rfl) ?_
      refine VR.pure rfl rfl (p_moveB rfl) ?_
      refine VR.knownF 85 rfl (by rw [decide_eq_true rfl]; rfl) ?_
      refine VR.pureG rfl rfl (p_moveP rfl) ?_
      refine VR.callG rfl rfl (r_call1 Try.call20 rfl) (list_c hm hD8 hl8') ?_
      rintro _ w ⟨A9, c9, L9, rfl, ho9, hm⟩
      refine VR.newG hm rfl rfl (n_buildSlice1 (vs := [.string _]) Try.underlying36 inf9 rfl rfl rfl rfl rfl rfl rfl) ?_
      intro b88 w hm
      obtain ⟨G3, hu3, hm, hb88⟩ := hm.freeze
      obtain ⟨G4, hu4, hm, hL9⟩ := hm.freeze
      refine VR.callG rfl rfl (r_call2 Try.call19 rfl rfl) (same_texts_c hm (Nat.le_trans ho9.le.1 ho9.le.2) (ho9.row1 hL9) ((Row.lit (cs := texts [nA]) (hb88 _ (.head _))).mono hu4.heap)) ?_
      rintro _ w ⟨rfl, hm⟩
      refine VR.pureG rfl rfl (p_not rfl) ?_
      refine VR.pure rfl rfl (p_pickF rfl rfl) ?_
      refine VR.nil ?_
      repeat (first | refine VC.seq ?_ | refine VC.block ?_ | refine VC.skip ?_)
      refine VC.condF rfl (by rw [decide_eq_true hs8]; rfl) ?_
      repeat (first | refine VC.seq ?_ | refine VC.block ?_ | refine VC.skip ?_)
      refine VC.region ?_
      refine VR.pure rfl rfl (p_moveI rfl) ?_
      refine VR.pure rfl rfl (p_moveL rfl) ?_
      refine VR.pure rfl rfl (p_len Try.underlying22 rfl) ?_
      refine VR.pure rfl rfl (p_add64 rfl rfl (by omega)) ?_
      refine VR.call rfl rfl (r_call2 Try.call21 rfl rfl) (pick_c (by omega)) ?_
      rintro _ w ⟨⟨i, hi, rfl⟩, rfl⟩
      refine VR.pure rfl rfl (p_assignI rfl) ?_
      refine VR.nil ?_
      have hik : i ≤ k := by omega
      have hlk : (now.take k).length = k := by rw [List.length_take]; omega
      repeat (first | refine VC.seq ?_ | refine VC.block ?_ | refine VC.skip ?_)
      refine VC.region ?_
      refine VR.pure rfl rfl (p_moveP rfl) ?_
      refine VR.pure rfl rfl (p_moveI rfl) ?_
      refine VR.call rfl rfl (r_call3 Try.call22 rfl rfl rfl) (cut_c hm hD8) ?_
      rintro _ w ⟨D9, rfl, ha9, hD9, hm⟩
      refine VR.nil ?_
      have e9 : D9.abs = ⟨1048576, [(nA, (now.take k).take i, (i : Int))]⟩ := by rw [ha9, e8, ds9 (by omega)]
      repeat (first | refine VC.seq ?_ | refine VC.block ?_ | refine VC.skip ?_)
      refine VC.region ?_
      refine VR.pure rfl rfl (p_moveP rfl) ?_
      refine VR.call rfl rfl (r_call2 Try.call15 rfl rfl) (crash_c (keep := 0) hm hD9) ?_
      rintro v27 w ⟨D10, ha10, hD10, hm⟩
      refine VR.nil ?_
      have hil : ((now.take k).take i).length = i := by rw [List.length_take]; omega
      have e10 : D10.abs = ⟨1048576, [(nA, (now.take k).take i, (i : Int))]⟩ := by
        rw [ha10, e9, ds7 (k := i) (by unfold keepN; dsimp only; rw [hil]; omega), List.take_take, Nat.min_self]
      repeat (first | refine VC.seq ?_ | refine VC.block ?_ | refine VC.skip ?_)
      refine VC.region ?_
      refine VR.pure rfl rfl (p_moveP rfl) ?_
      refine VR.call rfl rfl (r_call2 Try.call16 rfl rfl) (read_c hm hD10) ?_
      rintro _ w ⟨A11, n11, c11, L11, rfl, ho11, hn11, hm⟩
      refine VR.pure rfl rfl (p_moveT rfl) ?_
      refine VR.pure rfl rfl (p_extract rfl rfl) ?_
      refine VR.pure rfl rfl (p_extract rfl rfl) ?_
      refine VR.pure rfl rfl (p_assignL rfl) ?_
      refine VR.pure rfl rfl (p_assignI rfl) ?_
      refine VR.nil ?_
      have e10r : readA D10.abs nA = (0, (now.take k).take i) := by rw [e10, ds8]
      rw [e10r] at ho11
      have k10 : (readA D10.abs nA).1 = 0 := by rw [e10r]
      obtain ⟨G5, hu5, hm, hL11⟩ := hm.freeze
      have hr11 := ho11.row1 hL11
      have hr8i : BRow G5.heap A8 i ((now.take k).take i) := BRow.left (((hr8.mono hu3.heap).mono hu4.heap).mono hu5.heap) (by omega)
      repeat (first | refine VC.seq ?_ | refine VC.block ?_ | refine VC.skip ?_)
      refine VC.region ?_
      refine VR.pure rfl rfl (p_moveI rfl) ?_
      refine VR.pure rfl rfl (p_ne rfl rfl) ?_
      refine VR.pure rfl rfl (p_moveB rfl) ?_
      refine VR.knownF 109 rfl (decide_eq_false (not_not_intro k10)) ?_
      refine VR.pureG rfl rfl (p_moveL rfl) ?_
      refine VR.pureG rfl rfl (p_moveL rfl) ?_
      refine VR.pureG rfl rfl (p_moveI rfl) ?_
      refine VR.pureG rfl rfl (p_sliceHN (h := i) Try.underlying22 Try.sizeOf5 rfl rfl (by omega)) ?_
      refine VR.callG rfl rfl (r_call2 Try.call17 rfl rfl) (same_bytes_c hm (by unfold maxLen; omega) hr11 hr8i) ?_
      rintro _ w ⟨rfl, hm⟩
      refine VR.pureG rfl rfl (p_not rfl) ?_
      refine VR.pure rfl rfl (p_pickF rfl rfl) ?_
      refine VR.nil ?_
      repeat (first | refine VC.seq ?_ | refine VC.block ?_ | refine VC.skip ?_)
      refine VC.condF rfl (by rw [decide_eq_true rfl]; rfl) ?_
      repeat (first | refine VC.seq ?_ | refine VC.block ?_ | refine VC.skip ?_)
      refine VC.region ?_
      refine VR.pure rfl rfl (p_moveP rfl) ?_
      refine VR.call rfl rfl (r_call2 Try.call23 rfl rfl) (remove_c hm hD10) ?_
      rintro _ w ⟨u12, rfl, hD12, hm⟩
      refine VR.nil ?_
      have hdel : delFl D10.fs nA = [] := delFl_all fun f hf => by
        have h1 : f.abs ∈ D10.abs.fs := List.mem_map.2 ⟨f, hf, rfl⟩
        rw [e10] at h1
        exact congrArg Prod.fst (List.mem_singleton.1 h1)
      repeat (first | refine VC.seq ?_ | refine VC.block ?_ | refine VC.skip ?_)
      refine VC.region ?_
      refine VR.pure rfl rfl (p_moveP rfl) ?_
      refine VR.pure rfl rfl (p_moveI rfl) ?_
      refine VR.call rfl rfl (r_call2 Try.call15 rfl rfl) (crash_c (keep := keep) hm hD12) ?_
      rintro v32 w ⟨D13, ha13, hD13, hm⟩
      refine VR.nil ?_
      have e13 : D13.abs.fs = [] := by
        rw [ha13]
        show ((delFl D10.fs nA).map Fl.abs).map _ = []
        rw [hdel]
        rfl
      have hl13 : D13.fs.length ≤ 1000000 := by rw [fs_len (d := D13.abs) rfl, e13]; exact Nat.zero_le _
      have hs13 : sortN (D13.abs.fs.map (·.1)) = [] := by
        rw [e13]
        exact List.eq_nil_of_length_eq_zero (sortN_length [])
      repeat (first | refine VC.seq ?_ | refine VC.block ?_ | refine VC.skip ?_)
      refine VC.region ?_
      refine VR.pure rfl rfl (p_moveP rfl) ?_
      refine VR.call rfl rfl (r_call1 Try.call20 rfl) (list_c hm hD13 hl13) ?_
      rintro _ w ⟨A14, c14, L14, rfl, ho14, hm⟩
      refine VR.pure rfl rfl (p_len Try.underlying36 rfl) ?_
      refine VR.pure rfl rfl (p_eq rfl rfl) ?_
      refine VR.pure rfl rfl (p_moveB rfl) ?_
      refine VR.knownT 126 rfl (decide_eq_true (by rw [hs13]; rfl)) ?_
      refine VR.pureG rfl rfl (p_moveP rfl) ?_
      refine VR.callG rfl rfl (r_call1 Try.call24 rfl) (used_c (Mem.dropA (A := [L14]) hm) hD13) ?_
      rintro _ w ⟨rfl, hm⟩
      refine VR.pureG rfl rfl (p_eq rfl rfl) ?_
      refine VR.pure rfl rfl (p_pickT rfl rfl) ?_
      refine VR.pure rfl rfl (p_assignB rfl) ?_
      refine VR.nil ?_
      repeat (first | refine VC.seq ?_ | refine VC.block ?_ | refine VC.skip ?_)
      refine VC.ret ⟨_, ResOf.r1 (v := .bool _) rfl rfl, ?_⟩
      refine ⟨congrArg Value.bool (decide_eq_true (by rw [e13]; rfl)), ((((((hm.subF (by simp)).shrink hu5).shrink hu4).shrink hu3).shrink hu2).shrink hu1)⟩
end Go.Bd
namespace Go.Proofs.Ytjohjlhjeommiaa
open Go.Bd Go.ChangeShapes Go.WideShapes

set_option maxRecDepth 100000 in
theorem stays_lifted (os : Os) (started : os.Started) (H : Type) (enc : TypeId × Value → H) :
    ReturnsInHanded {} Try.checked os 3 .any (Rows.diskStaysSpec.pre6 enc Try.prog Try.f3 Rows.diskStaysRow.domain false) (Rows.diskStaysSpec.post enc Try.prog Try.f3 false true false false) := by
  refine law_frame (C := Try.checked) (tb := 4) (by kernel_rfl) (by kernel_rfl) started (by kernel_rfl) Try.func3 rfl rfl Try.underlying4 (by kernel_rfl) ?_
    (ChangeSpec.witness6 (enc := enc) (C := Try.checked) false ⟨#[], #[.slice none 0 0, .slice none 0 0, .int .i64 0, .bool false], []⟩ 8 (by kernel_rfl) (by kernel_rfl) (by kernel_rfl) (by kernel_rfl)) ?_
  · intro ds hl
    match ds, hl with
    | [d1, d2, d3, d4], _ => rfl
  · intro W base args ds p hval hA hwt
    replace hA : DataW.TrodAll enc Try.prog W 0 (fun _ => true) true Try.f3.params.toList args.toList ds p := hA
    rw [Try.params3] at hA hval
    replace hwt : (DataW.weightsEach Try.prog [22, 22, 3, 4] ds).all (· ≤ reachBytes) = true := hwt
    obtain ⟨v0, vs0, d0, ds0, p0, q0, hargs, rfl, rfl, h0, r0⟩ := trodAll_cons hA
    obtain ⟨v1, vs1, d1, ds1, p1, q1, rfl, rfl, rfl, h1, r1⟩ := trodAll_cons r0
    obtain ⟨v2, vs2, d2, ds2, p2, q2, rfl, rfl, rfl, h2, r2⟩ := trodAll_cons r1
    obtain ⟨v3, vs3, d3, ds3, p3, q3, rfl, rfl, rfl, h3, r3⟩ := trodAll_cons r2
    obtain ⟨rfl, rfl, rfl⟩ := trodAll_nil r3
    obtain rfl : args = #[v0, v1, v2, v3] := by cases args; simp_all
    obtain ⟨A0, n0, c0, xs0, rfl, hn0, hc0, hr0, w0, hd0⟩ := arg_ints Try.underlying22 Try.underlying5 (by kernel_rfl) (hval 0 22 v0 rfl rfl) h0
    obtain ⟨A1, n1, c1, xs1, rfl, hn1, hc1, hr1, w1, hd1⟩ := arg_ints Try.underlying22 Try.underlying5 (by kernel_rfl) (hval 1 22 v1 rfl rfl) h1
    obtain ⟨a2, rfl, _, _, w2⟩ := open_int Try.underlying3 (hval 2 3 v2 rfl rfl) h2
    obtain ⟨b3, rfl⟩ := okWide_bool Try.underlying4 (hval 3 4 v3 rfl rfl)
    exact disk_stays_c (Mem.of W) hr0 hn1 hr1

theorem stays : Rows.DiskStaysSaid :=
  OpenClaim.holds_of_wide 3 Try.f3 rfl rfl rfl rfl rfl rfl rfl ⟨rfl, rfl, rfl, rfl, rfl⟩ rfl rfl rfl rfl rfl (by kernel_rfl) Try.func3 (by kernel_rfl)
    (of_decide_eq_true (by kernel_rfl)) (by unfold Func.isWrapper; rw [if_neg (of_decide_eq_false (by kernel_rfl))]; exact ⟨rfl, rfl⟩)
    (fun os started H enc _ => stays_lifted os started H enc)
end Go.Proofs.Ytjohjlhjeommiaa
