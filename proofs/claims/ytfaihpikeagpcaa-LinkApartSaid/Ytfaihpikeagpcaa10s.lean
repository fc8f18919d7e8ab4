/- Contracts of layer 10: rows of loads, beginnings; how a side lies. Conditions: as each states. -/
import Derived.Test.Ytfaihpikeagpcaa10d
import Derived.Test.Ytfaihpikeagpcaa10p
namespace Go.Bd
open Go.Proofs
set_option linter.unusedVariables false
set_option maxRecDepth 20000

theorem bcell_at {ws : List Bs} {i : Nat} {b : Bs} (h : ws[i]? = some b) : (bcells ws)[i]? = some (.slice b.A b.n b.c) := by
  have := flat_at Bs.len h (j := 0) (by decide)
  rw [Nat.mul_one, Nat.add_zero] at this
  exact this
def BsW (H : Nat → Option Obj) (b : Bs) : Prop := BRow H b.A b.n b.bs ∧ b.n ≤ maxLen
/-- A row of loads. -/
def LR (H : Nat → Option Obj) (A : Option Addr) (n : Nat) (l : List (List Int)) : Prop := ∃ ws, Row H A n (bcells ws) ∧ ws.map Bs.bs = l ∧ ∀ b ∈ ws, BsW H b
theorem LR.mono {H K : Nat → Option Obj} {A : Option Addr} {n : Nat} {l : List (List Int)} (h : LR H A n l) (hle : ∀ b o, H b = some o → K b = some o) : LR K A n l := by
  obtain ⟨ws, h1, h2, h3⟩ := h
  exact ⟨ws, h1.mono hle, h2, fun b hb => ⟨(h3 b hb).1.mono hle, (h3 b hb).2⟩⟩

theorem begins_c {F : Env} {w : World} {Ls : List Blks} {A B : Option Addr} {n c m d : Nat} {xs ys : List (List Int)} (hm : Mem F w Ls) (hn : n ≤ maxLen) (hr : LR F.heap A n xs) (hs : LR F.heap B m ys) (hp : xs = ys.take n) :
    Calls Try.prog 17 #[.slice A n c, .slice B m d] w (Ret fun v w' => v = .bool true ∧ Mem F w' Ls) := by
  obtain ⟨ws, hr, hws, hwo⟩ := hr
  obtain ⟨us, hs, hus, huo⟩ := hs
  have hl : ws.length = n := by have := hr.len; rwa [flat_len Bs.len, Nat.mul_one] at this
  have hl2 : us.length = m := by have := hs.len; rwa [flat_len Bs.len, Nat.mul_one] at this
  have hnm : n ≤ m := by
    have := congrArg List.length hp
    rw [← hws, ← hus, List.length_take, List.length_map, List.length_map] at this
    omega
  unfold maxLen at hn
  refine Calls.of_vc Try.func17 rfl Try.ntmps17 rfl ?_
  repeat (first | refine VC.seq ?_ | refine VC.block ?_ | refine VC.skip ?_)
  refine VC.region ?_
  refine VR.pure rfl rfl (p_assignB rfl) ?_
  refine VR.nil ?_
  repeat (first | refine VC.seq ?_ | refine VC.block ?_ | refine VC.skip ?_)
  refine VC.region ?_
  refine VR.pure rfl rfl (p_moveL rfl) ?_
  refine VR.pure rfl rfl (p_len Try.underlying29 rfl) ?_
  refine VR.pure rfl rfl (p_moveL rfl) ?_
  refine VR.pure rfl rfl (p_len Try.underlying29 rfl) ?_
  refine VR.pure rfl rfl (p_gt rfl rfl) ?_
  refine VR.nil ?_
  repeat (first | refine VC.seq ?_ | refine VC.block ?_ | refine VC.skip ?_)
  refine VC.condF rfl (decide_eq_false (by omega)) ?_
  repeat (first | refine VC.seq ?_ | refine VC.block ?_ | refine VC.skip ?_)
  refine VC.region ?_
  refine VR.pure rfl rfl (p_assignI rfl) ?_
  refine VR.nil ?_
  repeat (first | refine VC.seq ?_ | refine VC.block ?_ | refine VC.skip ?_)
  refine VC.loop (σ := Nat) (fun k => [(0, .slice A n c), (1, .slice B m d), (5, .int .i64 k)]) (fun k w => Mem F w Ls ∧ k ≤ n) (fun k => n - k) 0 ⟨rfl, rfl, rfl, trivial⟩ ⟨hm, by omega⟩ ?_
  rintro k A' w ⟨hm, hk⟩
  repeat (first | refine VC.seq ?_ | refine VC.block ?_ | refine VC.skip ?_)
  refine VC.region ?_
  refine VR.pure rfl rfl (p_moveI rfl) ?_
  refine VR.pure rfl rfl (p_moveL rfl) ?_
  refine VR.pure rfl rfl (p_len Try.underlying29 rfl) ?_
  refine VR.pure rfl rfl (p_lt rfl rfl) ?_
  refine VR.nil ?_
  repeat (first | refine VC.seq ?_ | refine VC.block ?_ | refine VC.skip ?_)
  refine VC.condD rfl (fun h => ?_) (fun h => ?_)
  · have hk' : k < n := by omega
    obtain ⟨x, hx, hxm⟩ := get_of (xs := ws) (k := k) (by omega)
    obtain ⟨y, hy, hym⟩ := get_of (xs := us) (k := k) (by omega)
    have hxy : x.bs = y.bs := by
      have h1 : xs[k]? = some x.bs := by rw [← hws, List.getElem?_map, hx]; rfl
      have h2 : ys[k]? = some y.bs := by rw [← hus, List.getElem?_map, hy]; rfl
      rw [hp, List.getElem?_take, if_pos hk', h2] at h1
      exact (Option.some.inj h1).symm
    obtain ⟨b, off, blk, T, fr, rfl, hb, hc⟩ := Row.get hr (by omega)
    obtain ⟨b2, off2, blk2, T2, fr2, rfl, hb2, hc2⟩ := Row.get hs (by omega)
    repeat (first | refine VC.seq ?_ | refine VC.block ?_ | refine VC.skip ?_)
    refine VC.loud (Kept F []) [8] rfl (by kernel_rfl) (Kept.of0 hm.drew) ?_
    replace hm := hm.drew
    refine VL.pure rfl rfl rfl (p_moveL rfl) ?_
    refine VL.pure rfl rfl rfl (p_moveI rfl) ?_
    refine VL.pure rfl rfl rfl (p_idx1 Try.underlying29 Try.sizeOf22 rfl rfl hk') ?_
    refine VL.read rfl rfl rfl (fun w' hw' => r_load (v := .slice _ _ _) Try.isAgg22 rfl (hw'.fix _ _ hb) ((hc k hk').trans (bcell_at hx))) ?_
    refine VL.pure rfl rfl rfl (p_moveL rfl) ?_
    refine VL.pure rfl rfl rfl (p_moveI rfl) ?_
    refine VL.pure rfl rfl rfl (p_idx1 Try.underlying29 Try.sizeOf22 rfl rfl (by omega : k < m)) ?_
    refine VL.read rfl rfl rfl (fun w' hw' => r_load (v := .slice _ _ _) Try.isAgg22 rfl (hw'.fix _ _ hb2) ((hc2 k (by omega)).trans (bcell_at hy))) ?_
    refine VL.call rfl rfl rfl (r_call2 Try.call19 rfl rfl) (same_bytes_c hm (hwo x hxm).2 (hwo x hxm).1 (huo y hym).1) ?_
    rintro _ w ⟨rfl, hm⟩
    refine ⟨Kept.of0 hm, ?_⟩
    refine VL.pure rfl rfl rfl (p_notD rfl) ?_
    refine VL.nil ?_
    repeat (first | refine VC.seq ?_ | refine VC.block ?_ | refine VC.skip ?_)
    refine VC.condF rfl (decide_eq_false (not_not_intro hxy)) ?_
    repeat (first | refine VC.seq ?_ | refine VC.block ?_ | refine VC.skip ?_)
    refine VC.region ?_
    refine VR.pure rfl rfl (p_moveI rfl) ?_
    refine VR.pure rfl rfl (p_add64 rfl rfl (by omega)) ?_
    refine VR.pure rfl rfl (p_assignI rfl) ?_
    refine VR.nil ?_
    exact ⟨k + 1, ⟨rfl, rfl, rfl, trivial⟩, ⟨hm, by omega⟩, by omega⟩
  · repeat (first | refine VC.seq ?_ | refine VC.block ?_ | refine VC.skip ?_)
    refine VC.exit ?_
    repeat (first | refine VC.seq ?_ | refine VC.block ?_ | refine VC.skip ?_)
    refine VC.region ?_
    refine VR.pure rfl rfl (p_assignB rfl) ?_
    refine VR.nil ?_
    repeat (first | refine VC.seq ?_ | refine VC.block ?_ | refine VC.skip ?_)
    refine VC.ret ⟨_, ResOf.r1 (v := .bool _) rfl rfl, ?_⟩
    exact ⟨rfl, hm⟩

/-- A packet as it lies. -/
structure Pb where
  p : Pk
  A : Option Addr
  n : Nat
  c : Nat
def Pb.cells (x : Pb) : List Value := [.int .i64 x.p.from_, .int .i64 x.p.to, .int .i64 x.p.seq, .int .i64 x.p.ack, .slice x.A x.n x.c]
theorem Pb.len (x : Pb) : x.cells.length = 5 := rfl
abbrev pcells (ps : List Pb) : List Value := ps.flatMap Pb.cells
theorem pcells_one (ps : List Pb) : ∀ u ∈ pcells ps, u.oneCell' = true := by
  intro u hu
  obtain ⟨x, _, hx⟩ := List.mem_flatMap.1 hu
  simp only [Pb.cells, List.mem_cons, List.not_mem_nil, or_false] at hx
  rcases hx with rfl | rfl | rfl | rfl | rfl <;> rfl
def PbOk (H : Nat → Option Obj) (x : Pb) : Prop := BRow H x.A x.n x.p.load ∧ x.n ≤ 1048476
theorem PbOk.mono {H K : Nat → Option Obj} {x : Pb} (h : PbOk H x) (hle : ∀ b o, H b = some o → K b = some o) : PbOk K x := ⟨h.1.mono hle, h.2⟩

/-- A list of loads that is one's own. -/
def OL (H : Nat → Option Obj) (A : Option Addr) (n c : Nat) (l : List (List Int)) (L : Blks) : Prop := ∃ ws, OwnS 22 1 A n c (bcells ws) L ∧ ws.map Bs.bs = l ∧ ∀ b ∈ ws, BsW H b
theorem OL.nil (H : Nat → Option Obj) : OL H none 0 0 [] [] := ⟨[], OwnS.nil _ _, rfl, by simp⟩
theorem OL.mono {H K : Nat → Option Obj} {A : Option Addr} {n c : Nat} {l : List (List Int)} {L : Blks} (h : OL H A n c l L) (hle : ∀ b o, H b = some o → K b = some o) : OL K A n c l L := by
  obtain ⟨ws, h1, h2, h3⟩ := h
  exact ⟨ws, h1, h2, fun b hb => ⟨(h3 b hb).1.mono hle, (h3 b hb).2⟩⟩
theorem OL.len {H : Nat → Option Obj} {A : Option Addr} {n c : Nat} {l : List (List Int)} {L : Blks} (h : OL H A n c l L) : l.length = n := by
  obtain ⟨ws, h1, h2, h3⟩ := h
  have := h1.1
  rw [flat_len Bs.len, Nat.mul_one, Nat.mul_one] at this
  rw [← h2, List.length_map, this]
theorem OL.row {H K : Nat → Option Obj} {A : Option Addr} {n c : Nat} {l : List (List Int)} {L : Blks} (h : OL H A n c l L) (hle : ∀ b o, H b = some o → K b = some o) (hK : ∀ p ∈ L, K p.1 = some p.2) : LR K A n l := by
  obtain ⟨ws, h1, h2, h3⟩ := h
  exact ⟨ws, h1.row1 hK, h2, fun b hb => ⟨(h3 b hb).1.mono hle, (h3 b hb).2⟩⟩
theorem OL.push {H : Nat → Option Obj} {A' B : Option Addr} {n c' m d : Nat} {l : List (List Int)} {L' : Blks} {ws : List Bs} (h2 : ws.map Bs.bs = l) (h3 : ∀ b ∈ ws, BsW H b)
    (ho : OwnS 22 1 A' (n + 1) c' (bcells ws ++ [.slice B m d]) L') {x : List Int} (hr : BRow H B m x) (hm : m ≤ maxLen) : OL H A' (n + 1) c' (l ++ [x]) L' := by
  refine ⟨ws ++ [⟨B, m, d, x⟩], ?_, by rw [List.map_append, h2]; rfl, fun b hb => ?_⟩
  · have e2 : bcells (ws ++ [⟨B, m, d, x⟩]) = bcells ws ++ [.slice B m d] := by
      show (ws ++ [_]).flatMap Bs.cells = ws.flatMap Bs.cells ++ _
      rw [List.flatMap_append]
      rfl
    rw [e2]
    exact ho
  · rcases List.mem_append.1 hb with hb | hb
    · exact h3 b hb
    · simp only [List.mem_singleton] at hb
      subst hb
      exact ⟨hr, hm⟩
/-- A list of packets that is one's own. -/
def OP (H : Nat → Option Obj) (A : Option Addr) (n c : Nat) (l : List Pk) (L : Blks) : Prop := ∃ ps, OwnS 24 5 A n c (pcells ps) L ∧ ps.map Pb.p = l ∧ ∀ x ∈ ps, PbOk H x
theorem OP.nil (H : Nat → Option Obj) : OP H none 0 0 [] [] := ⟨[], OwnS.nil _ _, rfl, by simp⟩
theorem OP.mono {H K : Nat → Option Obj} {A : Option Addr} {n c : Nat} {l : List Pk} {L : Blks} (h : OP H A n c l L) (hle : ∀ b o, H b = some o → K b = some o) : OP K A n c l L := by
  obtain ⟨ws, h1, h2, h3⟩ := h
  exact ⟨ws, h1, h2, fun b hb => (h3 b hb).mono hle⟩
theorem OP.len {H : Nat → Option Obj} {A : Option Addr} {n c : Nat} {l : List Pk} {L : Blks} (h : OP H A n c l L) : l.length = n := by
  obtain ⟨ws, h1, h2, h3⟩ := h
  have := h1.1
  rw [flat_len Pb.len] at this
  rw [← h2, List.length_map]
  omega
theorem OP.push {H : Nat → Option Obj} {A' B : Option Addr} {n c' m d : Nat} {l : List Pk} {L' : Blks} {ps : List Pb} (h2 : ps.map Pb.p = l) (h3 : ∀ x ∈ ps, PbOk H x) {p : Pk}
    (ho : OwnS 24 5 A' (n + 1) c' (pcells ps ++ [.int .i64 p.from_, .int .i64 p.to, .int .i64 p.seq, .int .i64 p.ack, .slice B m d]) L') (hr : BRow H B m p.load) (hm : m ≤ 1048476) : OP H A' (n + 1) c' (l ++ [p]) L' := by
  refine ⟨ps ++ [⟨p, B, m, d⟩], ?_, by rw [List.map_append, h2]; rfl, fun b hb => ?_⟩
  · have e2 : pcells (ps ++ [⟨p, B, m, d⟩]) = pcells ps ++ [.int .i64 p.from_, .int .i64 p.to, .int .i64 p.seq, .int .i64 p.ack, .slice B m d] := by
      show (ps ++ [_]).flatMap Pb.cells = ps.flatMap Pb.cells ++ _
      rw [List.flatMap_append]
      rfl
    rw [e2]
    exact ho
  · rcases List.mem_append.1 hb with hb | hb
    · exact h3 b hb
    · simp only [List.mem_singleton] at hb
      subst hb
      exact ⟨hr, hm⟩

/-- How a side lies: its own cells, the link's, and the arrays. -/
structure SdAt (H : Nat → Option Obj) (gl : Nat) (a : Sd) (cs cl : Array Value) (W S T O : Blks) : Prop where
  link : LkAt H a.k cl W
  rest : ∃ inc A1 n1 c1 A2 n2 c2 A3 n3 c3, cs = #[.pointer (some ⟨gl, 0, none⟩), .int .i64 inc, .slice A1 n1 c1, .slice A2 n2 c2, .slice A3 n3 c3] ∧ OL H A1 n1 c1 a.sent S ∧ OL H A2 n2 c2 a.told T ∧ OP H A3 n3 c3 a.out O
theorem SdAt.mono {H K : Nat → Option Obj} {gl : Nat} {a : Sd} {cs cl : Array Value} {W S T O : Blks} (h : SdAt H gl a cs cl W S T O) (hle : ∀ b o, H b = some o → K b = some o) : SdAt K gl a cs cl W S T O := by
  obtain ⟨h1, inc, A1, n1, c1, A2, n2, c2, A3, n3, c3, h2, h3, h4, h5⟩ := h
  exact ⟨h1.mono hle, inc, A1, n1, c1, A2, n2, c2, A3, n3, c3, h2, h3.mono hle, h4.mono hle, h5.mono hle⟩
/-- Two sides beside one another, and all else that is fixed. -/
def Two (F : Env) (gs gl hs hl : Nat) (a b : Sd) (w : World) : Prop :=
  ∃ G cs cl W S T O ds dl W' S' T' O', F.under G ∧ SdAt G.heap gl a cs cl W S T O ∧ SdAt G.heap hl b ds dl W' S' T' O' ∧
    Mem G w ([(gs, .cells cs 46 (0, 0))] :: [(gl, .cells cl 33 (0, 0))] :: W :: S :: T :: O :: [(hs, .cells ds 46 (0, 0))] :: [(hl, .cells dl 33 (0, 0))] :: W' :: S' :: T' :: O' :: [])
theorem Two.swap {F : Env} {gs gl hs hl : Nat} {a b : Sd} {w : World} (h : Two F gs gl hs hl a b w) : Two F hs hl gs gl b a w := by
  obtain ⟨G, cs, cl, W, S, T, O, ds, dl, W', S', T', O', hu, h1, h2, hm⟩ := h
  exact ⟨G, ds, dl, W', S', T', O', cs, cl, W, S, T, O, hu, h2, h1, (((((hm.pull 11 rfl).pull 11 rfl).pull 11 rfl).pull 11 rfl).pull 11 rfl).pull 11 rfl⟩
/-- What a side has counted. -/
structure Cnt (a : Sd) (i : Nat) : Prop where
  sent : a.sent.length ≤ i
  out : a.out.length ≤ i
  three : ∀ l ∈ a.sent, l.length = 3
theorem Cnt.up {a : Sd} {i : Nat} (h : Cnt a i) : Cnt a (i + 1) := ⟨by have := h.sent; omega, by have := h.out; omega, h.three⟩
theorem Cnt.zero (k : Lk) : Cnt ⟨k, [], [], []⟩ 0 := ⟨by simp, by simp, by simp⟩
theorem Cnt.wrote {a : Sd} {i : Nat} (h : Cnt a i) {l : List Int} (hl : l.length = 3) : Cnt (a.wrote l) (i + 1) := by
  refine ⟨?_, ?_, fun z hz => ?_⟩
  · show (a.sent ++ [l]).length ≤ i + 1
    rw [List.length_append]
    have := h.sent
    simp only [List.length_cons, List.length_nil]
    omega
  · have := h.out
    show a.out.length ≤ i + 1
    omega
  · rcases List.mem_append.1 hz with hz | hz
    · exact h.three z hz
    · simp only [List.mem_singleton] at hz
      subst hz
      exact hl
theorem Cnt.let_ {a : Sd} {i : Nat} (h : Cnt a i) : Cnt a.let_ (i + 1) := by
  refine ⟨?_, ?_, h.three⟩
  · have := h.sent
    show a.sent.length ≤ i + 1
    omega
  · show (a.out ++ [a.k.out]).length ≤ i + 1
    rw [List.length_append]
    have := h.out
    simp only [List.length_cons, List.length_nil]
    omega
theorem Cnt.took {a : Sd} {i : Nat} (h : Cnt a i) (p : Pk) : Cnt (a.took p) i := ⟨h.sent, h.out, h.three⟩
end Go.Bd
