/- Layer 8: a disk and the document's one, step by step. Conditions: as each states. -/
import Derived.Test.Ytjohjlhjeommiaa08x
import Derived.Test.Ytjohjlhjeommiaa08k
namespace Go.Bd
open Go.Proofs Go.ChangeShapes Go.WideShapes
set_option linter.unusedVariables false
set_option maxRecDepth 20000

/-! ### Steps as arguments -/
structure Dd where
  op : Int
  name : ByteArray
  dest : ByteArray
  A : Option Addr
  n : Nat
  c : Nat
  b : List Int
  k : Int
def Dd.cells (x : Dd) : List Value := [.int .i64 x.op, .string x.name, .string x.dest, .slice x.A x.n x.c, .int .i64 x.k]
theorem Dd.len (x : Dd) : x.cells.length = 5 := rfl
structure DdOk (H : Nat → Option Obj) (x : Dd) : Prop where
  name : x.name.size ≤ maxLen
  dest : x.dest.size ≤ maxLen
  row : BRow H x.A x.n x.b
  small : x.n ≤ 140737488355328
theorem DdOk.mono {H H' : Nat → Option Obj} {x : Dd} (h : DdOk H x) (hle : ∀ b o, H b = some o → H' b = some o) : DdOk H' x := ⟨h.name, h.dest, Row.mono h.row hle, h.small⟩
theorem open_do {H : Type} {enc : TypeId × Value → H} {W : World} (n : Nat) (cs : List Value) (y : DataW H × List MemPlace) (h : DataW.trod enc Try.prog W 0 (fun _ => true) true n 55 cs = some y) (hw : Light Try.prog 55 y.1) :
    ∃ x : Dd, cs = x.cells ∧ DdOk (Env.of W).heap x := by
  obtain ⟨a0, a1, a2, A, k, c, xs, a4, rfl, _, h1, h2, _, _, h3, h4, _, _⟩ := op55 _ _ _ h hw
  unfold reachBytes at h3
  exact ⟨⟨a0, a1, a2, A, k, c, xs, a4⟩, rfl, h1, h2, h4, by show k ≤ _; omega⟩
theorem Row.heads {X : Type} {g : X → List Value} {s : Nat} (hg : ∀ x, (g x).length = s) {H : Nat → Option Obj} {A : Option Addr} {n k : Nat} {xs : List X} (h : Row H A (n * s) (xs.flatMap g)) (hl : xs.length = n) (hk : k ≤ n) : Row H A (k * s) ((xs.take k).flatMap g) := by
  have h1 := h.take (k := k * s) (Nat.mul_le_mul_right s hk)
  have h2 : (xs.flatMap g).take (k * s) = (xs.take k).flatMap g := by
    conv => lhs; rw [← List.take_append_drop k xs]
    rw [List.flatMap_append, List.take_left' (by rw [flat_len hg, List.length_take]; rw [Nat.min_eq_left (by omega)])]
  rwa [h2] at h1

/-! ### Plain law: the same files, in another order -/
structure Sm (b : Da) (room : Int) (rs : List Rf) : Prop where
  room : b.room = room
  perm : b.fs.Perm (absR rs)
  asc : AscN rs
theorem inA_perm {a b : List Fa} {s : ByteArray} (h : a.Perm b) (hp : Apart b) : inA a s = inA b s := by
  have hpa : Apart a := (h.pairwise_iff (fun hne e => hne e.symm)).2 hp
  cases hb : inA b s with
  | none =>
    refine inA_none fun f hf e => ?_
    unfold inA at hb
    rw [List.find?_eq_none] at hb
    exact hb f (h.subset hf) (decide_eq_true e)
  | some f =>
    have h1 : f ∈ b := List.mem_of_find?_eq_some hb
    have h2 : f.1 = s := of_decide_eq_true (List.find?_some (p := fun f : Fa => decide (f.1 = s)) hb)
    obtain ⟨i, hi, e⟩ := List.mem_iff_getElem.1 (h.symm.subset h1)
    have := inA_at hpa (show a[i]? = some f by rw [List.getElem?_eq_getElem hi, e])
    rwa [h2] at this
/-- Told alike, and left alike. -/
def Like (x y : Int × Da) : Prop := x.1 = y.1 ∧ x.2.room = y.2.room ∧ x.2.fs.Perm y.2.fs
section
variable {b : Da} {room : Int} {rs : List Rf} {s t : ByteArray}
theorem Sm.app (h : Sm b room rs) (l : List Int) : Like (appD b s l) (appD ⟨room, absR rs⟩ s l) := by
  have e := inA_perm (s := s) h.perm h.asc.apart
  unfold appD
  rw [e, h.room, sumL_perm h.perm]
  by_cases hn : nameOk s = true
  · rw [if_pos hn, if_pos hn]
    show Like (match inA (absR rs) s with | some f => _ | none => _) (match inA (absR rs) s with | some f => _ | none => _)
    cases inA (absR rs) s with
    | none =>
      dsimp only
      split
      · exact ⟨rfl, h.room, h.perm⟩
      · split
        · exact ⟨rfl, h.room, h.perm⟩
        · exact ⟨rfl, rfl, h.perm.append_right _⟩
    | some f =>
      dsimp only
      split
      · exact ⟨rfl, h.room, h.perm⟩
      · split
        · exact ⟨rfl, h.room, h.perm⟩
        · exact ⟨rfl, rfl, h.perm.map _⟩
  · rw [if_neg hn, if_neg hn]
    exact ⟨rfl, h.room, h.perm⟩
theorem Sm.sync (h : Sm b room rs) : Like (syncD b s) (syncD ⟨room, absR rs⟩ s) := by
  have e := inA_perm (s := s) h.perm h.asc.apart
  unfold syncD
  rw [e]
  show Like (match inA (absR rs) s with | some f => _ | none => _) (match inA (absR rs) s with | some f => _ | none => _)
  cases inA (absR rs) s with
  | none => exact ⟨rfl, h.room, h.perm⟩
  | some f => exact ⟨rfl, h.room, h.perm.map _⟩
theorem Sm.cut (h : Sm b room rs) (n : Int) : Like (cutD b s n) (cutD ⟨room, absR rs⟩ s n) := by
  have e := inA_perm (s := s) h.perm h.asc.apart
  unfold cutD
  rw [e]
  show Like (match inA (absR rs) s with | some f => _ | none => _) (match inA (absR rs) s with | some f => _ | none => _)
  cases inA (absR rs) s with
  | none => exact ⟨rfl, h.room, h.perm⟩
  | some f =>
    dsimp only
    split
    · exact ⟨rfl, h.room, h.perm⟩
    · exact ⟨rfl, h.room, h.perm.map _⟩
theorem Sm.rem (h : Sm b room rs) : Like (remD b s) (remD ⟨room, absR rs⟩ s) := by
  have e := inA_perm (s := s) h.perm h.asc.apart
  unfold remD
  rw [e]
  show Like (match inA (absR rs) s with | some f => _ | none => _) (match inA (absR rs) s with | some f => _ | none => _)
  cases inA (absR rs) s with
  | none => exact ⟨rfl, h.room, h.perm⟩
  | some f => exact ⟨rfl, h.room, h.perm.filter _⟩
theorem Sm.ren (h : Sm b room rs) : Like (renD b s t) (renD ⟨room, absR rs⟩ s t) := by
  have e := inA_perm (s := s) h.perm h.asc.apart
  unfold renD
  rw [e]
  by_cases hn : nameOk s = true ∧ nameOk t = true
  · rw [if_pos hn, if_pos hn]
    show Like (match inA (absR rs) s with | some f => _ | none => _) (match inA (absR rs) s with | some f => _ | none => _)
    cases inA (absR rs) s with
    | none => exact ⟨rfl, h.room, h.perm⟩
    | some f =>
      dsimp only
      split
      · exact ⟨rfl, h.room, h.perm⟩
      · exact ⟨rfl, h.room, ((h.perm.filter _).filter _).append_right _⟩
  · rw [if_neg hn, if_neg hn]
    exact ⟨rfl, h.room, h.perm⟩
theorem Sm.read (h : Sm b room rs) : readA b s = readA ⟨room, absR rs⟩ s := by
  unfold readA
  rw [inA_perm (s := s) h.perm h.asc.apart]
theorem Sm.used (h : Sm b room rs) : sumL b.fs = sumL (absR rs) := sumL_perm h.perm
theorem Sm.list (h : Sm b room rs) : sortN (b.fs.map (·.1)) = rs.map (·.name) := by
  rw [sortN_perm (h.perm.map (·.1))]
  have e : (absR rs).map (·.1) = rs.map (·.name) := by
    show (rs.map Rf.abs).map _ = _
    rw [List.map_map]
    rfl
  rw [e]
  unfold sortN
  rw [List.mergeSort_of_pairwise]
  · rw [List.map_map]
    conv => rhs; rw [← List.map_id (rs.map (·.name))]
    apply List.map_congr_left
    intro x _
    show (⟨x.data.toList.toArray⟩ : ByteArray) = x
    rw [Array.toArray_toList]
  · rw [List.map_map, List.pairwise_map]
    exact List.Pairwise.imp (fun {x y} hlt => decide_eq_true (List.le_of_lt hlt)) h.asc
theorem Sm.on {r r' : Int × Da} {rs' : List Rf} (h : Like r r') (hr : r'.2.room = room) (hp : (absR rs').Perm r'.2.fs) (ha : AscN rs') : Sm r.2 room rs' := ⟨h.2.1.trans hr, h.2.2.trans hp.symm, ha⟩
theorem Sm.len {D : Dk} (h : Sm D.abs room rs) : rs.length = D.fs.length := by
  have h1 := h.perm.length_eq
  have h2 : D.abs.fs.length = D.fs.length := List.length_map _
  have h3 : (absR rs).length = rs.length := List.length_map _
  omega
end
theorem app_room (d : Da) (s : ByteArray) (l : List Int) : (appD d s l).2.room = d.room ∧ (appD d s l).2.fs.length ≤ d.fs.length + 1 := by
  unfold appD
  split
  · split
    · split
      · exact ⟨rfl, Nat.le_succ _⟩
      · split
        · exact ⟨rfl, Nat.le_succ _⟩
        · exact ⟨rfl, by show (updA _ _ _).length ≤ _; unfold updA; rw [List.length_map]; exact Nat.le_succ _⟩
    · split
      · exact ⟨rfl, Nat.le_succ _⟩
      · split
        · exact ⟨rfl, Nat.le_succ _⟩
        · exact ⟨rfl, by show (_ ++ [_]).length ≤ _; rw [List.length_append]; exact Nat.le_refl _⟩
  · exact ⟨rfl, Nat.le_succ _⟩
theorem sync_room (d : Da) (s : ByteArray) : (syncD d s).2.room = d.room ∧ (syncD d s).2.fs.length ≤ d.fs.length + 1 := by
  unfold syncD
  split
  · exact ⟨rfl, by show (updA _ _ _).length ≤ _; unfold updA; rw [List.length_map]; exact Nat.le_succ _⟩
  · exact ⟨rfl, Nat.le_succ _⟩
theorem cut_room (d : Da) (s : ByteArray) (n : Int) : (cutD d s n).2.room = d.room ∧ (cutD d s n).2.fs.length ≤ d.fs.length + 1 := by
  unfold cutD
  split
  · split
    · exact ⟨rfl, Nat.le_succ _⟩
    · exact ⟨rfl, by show (updA _ _ _).length ≤ _; unfold updA; rw [List.length_map]; exact Nat.le_succ _⟩
  · exact ⟨rfl, Nat.le_succ _⟩
theorem rem_room (d : Da) (s : ByteArray) : (remD d s).2.room = d.room ∧ (remD d s).2.fs.length ≤ d.fs.length + 1 := by
  unfold remD
  split
  · exact ⟨rfl, Nat.le_succ_of_le (List.length_filter_le _ _)⟩
  · exact ⟨rfl, Nat.le_succ _⟩
theorem ren_room (d : Da) (s t : ByteArray) : (renD d s t).2.room = d.room ∧ (renD d s t).2.fs.length ≤ d.fs.length + 1 := by
  unfold renD
  split
  · split
    · split
      · exact ⟨rfl, Nat.le_succ _⟩
      · refine ⟨rfl, ?_⟩
        show (_ ++ [_]).length ≤ _
        rw [List.length_append]
        have h1 := List.length_filter_le (fun f : Fa => decide (f.1 ≠ t)) d.fs
        have h2 := List.length_filter_le (fun f : Fa => decide (f.1 ≠ s)) (delA d.fs t)
        unfold delA at h2 ⊢
        show _ + 1 ≤ _
        omega
    · exact ⟨rfl, Nat.le_succ _⟩
  · exact ⟨rfl, Nat.le_succ _⟩
theorem step_len {D D' : Dk} {d' : Da} (he : D'.abs = d') (h : d'.fs.length ≤ D.abs.fs.length + 1) : D'.fs.length ≤ D.fs.length + 1 := by
  have h1 := fs_len he
  have h3 : D.abs.fs.length = D.fs.length := List.length_map _
  omega

/-! ### Both in memory -/
section
variable {F : Env} {w : World} {Ls : List Blks} {g m gr : Nat} {D : Dk} {room : Int} {rs : List Rf} {s t : ByteArray} {n : Int} {A : Option Addr} {c : Nat} {L : Blks}
abbrev two (g m : Nat) (D : Dk) (gr : Nat) (room : Int) (rs : List Rf) (A : Option Addr) (c : Nat) (L : Blks) (Ls : List Blks) : List Blks := dkB g m D ++ ([(gr, rdisk room rs A c)] :: L :: Ls)
theorem two_perm (X L : Blks) (B Ls : List Blks) : (X :: L :: (B ++ Ls)).flatten.Perm (B ++ (X :: L :: Ls)).flatten := by
  have h := (List.perm_append_comm (l₁ := [X, L]) (l₂ := B)).append_right Ls
  have h2 : (X :: L :: (B ++ Ls)).Perm (B ++ (X :: L :: Ls)) := by
    have e1 : [X, L] ++ B ++ Ls = X :: L :: (B ++ Ls) := by simp
    have e2 : B ++ [X, L] ++ Ls = B ++ (X :: L :: Ls) := by simp
    rw [e1, e2] at h
    exact h
  exact h2.flatten
theorem RMem.of (ho : OwnR rs A c L) (hok : ∀ x ∈ rs, RfOk F.heap x) (hm : Mem F w (two g m D gr room rs A c L Ls)) : RMem F w gr room rs (dkB g m D ++ Ls) :=
  ⟨A, c, L, ho, hok, hm.permF (two_perm _ _ _ _).symm⟩
theorem RMem.to (h : RMem F w gr room rs (dkB g m D ++ Ls)) : ∃ A c L, OwnR rs A c L ∧ (∀ x ∈ rs, RfOk F.heap x) ∧ Mem F w (two g m D gr room rs A c L Ls) := by
  obtain ⟨A, c, L, ho, hok, hm⟩ := h
  exact ⟨A, c, L, ho, hok, hm.permF (two_perm _ _ _ _)⟩
/-- What comes of a step of the document's. -/
def Did2 (F : Env) (g m : Nat) (D : Dk) (gr : Nat) (room : Int) (Ls : List Blks) (r : Int × Da) (v : Value) (w' : World) : Prop :=
  ∃ G rs' A' c' L', v = .int .i64 r.1 ∧ (absR rs').Perm r.2.fs ∧ AscN rs' ∧ F.under G ∧ OwnR rs' A' c' L' ∧ (∀ x ∈ rs', RfOk G.heap x) ∧ Mem G w' (two g m D gr room rs' A' c' L' Ls)
theorem Did.two {r : Int × Da} {v : Value} {w' : World} (h : Did F gr room (dkB g m D ++ Ls) r v w') : Did2 F g m D gr room Ls r v w' := by
  obtain ⟨G, rs', h1, h2, h3, h4, h5⟩ := h
  obtain ⟨A', c', L', h6, h7, h8⟩ := h5.to
  exact ⟨G, rs', A', c', L', h1, h2, h3, h4, h6, h7, h8⟩
theorem rapp2 {B : Option Addr} {q d : Nat} {b : List Int} (ho : OwnR rs A c L) (hok : ∀ x ∈ rs, RfOk F.heap x) (hm : Mem F w (two g m D gr room rs A c L Ls)) (hl : rs.length ≤ 1000) (hasc : AscN rs) (hs : s.size ≤ maxLen) (hq : q ≤ 140737488355328) (hb : BRow F.heap B q b) (hroom : room ≤ 9223372036854775807) :
    Calls Try.prog 56 #[.pointer (some ⟨gr, 0, none⟩), .string s, .slice B q d] w (Ret (Did2 F g m D gr room Ls (appD ⟨room, absR rs⟩ s b))) :=
  Ret.mono (rappend_c (RMem.of ho hok hm) hl hasc hs hq hb hroom) fun v w' h => h.two
theorem rsync2 (ho : OwnR rs A c L) (hok : ∀ x ∈ rs, RfOk F.heap x) (hm : Mem F w (two g m D gr room rs A c L Ls)) (hl : rs.length ≤ 1000) (hasc : AscN rs) :
    Calls Try.prog 57 #[.pointer (some ⟨gr, 0, none⟩), .string s] w (Ret (Did2 F g m D gr room Ls (syncD ⟨room, absR rs⟩ s))) :=
  Ret.mono (rsync_c (RMem.of ho hok hm) (by omega) hasc) fun v w' h => h.two
theorem rcut2 (ho : OwnR rs A c L) (hok : ∀ x ∈ rs, RfOk F.heap x) (hm : Mem F w (two g m D gr room rs A c L Ls)) (hl : rs.length ≤ 1000) (hasc : AscN rs) :
    Calls Try.prog 58 #[.pointer (some ⟨gr, 0, none⟩), .string s, .int .i64 n] w (Ret (Did2 F g m D gr room Ls (cutD ⟨room, absR rs⟩ s n))) :=
  Ret.mono (rcut_c (RMem.of ho hok hm) hl hasc) fun v w' h => h.two
theorem rren2 (ho : OwnR rs A c L) (hok : ∀ x ∈ rs, RfOk F.heap x) (hm : Mem F w (two g m D gr room rs A c L Ls)) (hl : rs.length ≤ 1000) (hasc : AscN rs) (hs : s.size ≤ maxLen) (ht : t.size ≤ maxLen) :
    Calls Try.prog 59 #[.pointer (some ⟨gr, 0, none⟩), .string s, .string t] w (Ret (Did2 F g m D gr room Ls (renD ⟨room, absR rs⟩ s t))) :=
  Ret.mono (rrename_c (RMem.of ho hok hm) hl hasc hs ht) fun v w' h => h.two
theorem rrem2 (ho : OwnR rs A c L) (hok : ∀ x ∈ rs, RfOk F.heap x) (hm : Mem F w (two g m D gr room rs A c L Ls)) (hl : rs.length ≤ 1000) (hasc : AscN rs) :
    Calls Try.prog 60 #[.pointer (some ⟨gr, 0, none⟩), .string s] w (Ret (Did2 F g m D gr room Ls (remD ⟨room, absR rs⟩ s))) :=
  Ret.mono (rremove_c (RMem.of ho hok hm) (by omega) hasc) fun v w' h => h.two
theorem rcrash2 (ho : OwnR rs A c L) (hok : ∀ x ∈ rs, RfOk F.heap x) (hm : Mem F w (two g m D gr room rs A c L Ls)) (hl : rs.length ≤ 1000) (hasc : AscN rs) :
    Calls Try.prog 38 #[.pointer (some ⟨gr, 0, none⟩), .int .i64 n] w (Ret fun v w' => ∃ G rs' A' c' L', absR rs' = (crashD ⟨room, absR rs⟩ n).fs ∧ AscN rs' ∧ F.under G ∧ OwnR rs' A' c' L' ∧ (∀ x ∈ rs', RfOk G.heap x) ∧ Mem G w' (two g m D gr room rs' A' c' L' Ls)) :=
  Ret.mono (rcrash_c (RMem.of ho hok hm) hl hasc) fun v w' ⟨G, rs', h1, h2, h3, h4⟩ => by
    obtain ⟨A', c', L', h6, h7, h8⟩ := h4.to
    exact ⟨G, rs', A', c', L', h1, h2, h3, h6, h7, h8⟩
/-- Some block of both. -/
theorem two_book : [(gr, rdisk room rs A c)] ∈ two g m D gr room rs A c L Ls := List.mem_append_right _ (.head _)
theorem two_row : L ∈ two g m D gr room rs A c L Ls := List.mem_append_right _ (.tail _ (.head _))
theorem rread2 (ho : OwnR rs A c L) (hok : ∀ x ∈ rs, RfOk F.heap x) (hm : Mem F w (two g m D gr room rs A c L Ls)) (hl : rs.length ≤ 1000) (hasc : AscN rs) :
    Calls Try.prog 36 #[.pointer (some ⟨gr, 0, none⟩), .string s] w (Ret fun v w' => ∃ A' n' c' G, v = .tuple #[.slice A' n' c', .int .i64 (readA ⟨room, absR rs⟩ s).1] ∧ F.under G ∧ BRow G.heap A' n' (readA ⟨room, absR rs⟩ s).2 ∧ Mem G w' (two g m D gr room rs A c L Ls)) :=
  Ret.mono (rread_c (rs := rs) hm.all (hm.plus_mem two_book _ (.head _)) (ho.row (hm.plus_mem two_row)) (fun x hx => (hok x hx).mono hm.le) (by omega) hasc.apart) fun v w' ⟨A', n', c', M, h1, h2, h3⟩ => by
    obtain ⟨G, hu, hm2, hM⟩ := (show Mem F w' (M :: two g m D gr room rs A c L Ls) from hm.back h3).freeze
    exact ⟨A', n', c', G, h1, hu, h2.row1 hM, hm2⟩
theorem rused2 (ho : OwnR rs A c L) (hok : ∀ x ∈ rs, RfOk F.heap x) (hm : Mem F w (two g m D gr room rs A c L Ls)) (hl : rs.length ≤ 1000) :
    Calls Try.prog 62 #[.pointer (some ⟨gr, 0, none⟩)] w (Ret fun v w' => v = .int .i64 (sumL (absR rs)) ∧ Mem F w' (two g m D gr room rs A c L Ls)) :=
  Ret.mono (rused_c (rs := rs) hm.all (hm.plus_mem two_book _ (.head _)) (ho.row (hm.plus_mem two_row)) (fun x hx => (hok x hx).mono hm.le) (by omega)) fun v w' ⟨h1, h3⟩ => ⟨h1, hm.back0 h3⟩
theorem rlist2 (ho : OwnR rs A c L) (hm : Mem F w (two g m D gr room rs A c L Ls)) (hl : rs.length ≤ 1000) :
    Calls Try.prog 61 #[.pointer (some ⟨gr, 0, none⟩)] w (Ret fun v w' => ∃ A' c' G, v = .slice A' rs.length c' ∧ F.under G ∧ Row G.heap A' rs.length (texts (rs.map (·.name))) ∧ Mem G w' (two g m D gr room rs A c L Ls)) :=
  Ret.mono (rlist_c (rs := rs) hm.all (hm.plus_mem two_book _ (.head _)) (ho.row (hm.plus_mem two_row)) (by omega)) fun v w' ⟨A', c', M, h1, h2, h3⟩ => by
    obtain ⟨G, hu, hm2, hM⟩ := (show Mem F w' (M :: two g m D gr room rs A c L Ls) from hm.back h3).freeze
    exact ⟨A', c', G, h1, hu, h2.row1 hM, hm2⟩
end
end Go.Bd
