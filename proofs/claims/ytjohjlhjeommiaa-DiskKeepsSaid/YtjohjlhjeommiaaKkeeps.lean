/- DiskKeeps: bytes that are handed in are only read, and not kept; what is read is new memory. Conditions: none. -/
import Derived.Test.Ytjohjlhjeommiaa08fg
namespace Go.Bd
open Go.Proofs Go.ChangeShapes Go.WideShapes
set_option linter.unusedVariables false
set_option maxRecDepth 20000

section
variable {P : Program} {n : Nat} {ops : Array Oper} {rest : List Oper} {N : Fr → World → Prop} {f : Fr} {w : World} {F : Env} {Ls : List Blks} {k : Nat} {C : World → Prop} {louds : List Nat}
variable {dst : Option Tmp} {ty : TypeId} {pos : String} {after : Array Edge} {g : Option (Nat × Bool)}
theorem VR.appendG {t e : TypeId} {i : TypeInfo} {z : Value} {s bytes : Nat} {x y : Operand} (ht : P.underlying t = some (.slice e)) (hi : P.info? e = some i) (hz : i.zero = some z)
    (hsz : i.size = s) (hby : i.bytes = bytes) (hzs : z.cells.size = s) (hs : Nat.blt 0 s = true) {A : Option Addr} {m c : Nat} {xs : List Value} {L : Blks} {B : Option Addr} {q d : Nat} {news : List Value}
    (hw : Region.wanted (⟨dst, .call { callee := .builtin .append, args := #[x, y], argTypes := #[t, t] }, ty, pos, after, g⟩ : Oper) (fyield ops f) = true) (hd : dstOk n dst = true) (hx : f.ev x = .slice A m c) (hy : f.ev y = .slice B q d)
    (hm : Mem F w (L :: Ls)) (ho : OwnS e s A m c xs L) (hr : Row (fun b => w.heap[b]?) B (q * s) news) (h1 : ∀ u ∈ news, u.oneCell' = true) {len : Nat} (hlen : m + q = len) (h63 : len ≤ maxLen ∧ len * bytes ≤ 140737488355328)
    (h : ∀ A' c' w' L', OwnS e s A' len c' (xs ++ news) L' → Mem F w' (L' :: Ls) → VR P n ops rest N (f.putO dst (.slice A' len c')) w') :
    VR P n ops (⟨dst, .call { callee := .builtin .append, args := #[x, y], argTypes := #[t, t] }, ty, pos, after, g⟩ :: rest) N f w := by
  subst hlen
  obtain ⟨A', c', w', L', hrun, h6, h7⟩ := run_append (P := P) (ty' := ty) ht hi hz hsz hby hzs (Nat.blt_eq.mp hs) ho hm (d := d) hr h1 h63.1 h63.2
  refine VR.valG hw hd ?_ (h A' c' w' L' h6 h7)
  rw [BigFrame.execOp_builtin]
  simp [BigFrame.builtin_append, hx, hy, hrun]
end
theorem turnB_c {F : Env} {w : World} {Ls : List Blks} {A : Option Addr} {n c : Nat} {L : Blks} (hm : Mem F w (L :: Ls)) (hn : n ≤ 140737488355328) (ho : OwnU ⟨A, n, c⟩ L) :
    Calls Try.prog 31 #[.slice A n c] w (Ret fun v w' => Mem F w' Ls) := by
  obtain ⟨xs, ho, hx⟩ := ho
  dsimp only at ho
  rcases ho.2 with ⟨rfl, h0, rfl, rfl⟩ | ⟨g, cur, rfl, rfl, h1, h2, h3, h4⟩
  · have hn0 : n = 0 := h0
    subst hn0
    refine Calls.of_vc Try.func31 rfl Try.ntmps31 rfl ?_
    repeat (first | refine VC.seq ?_ | refine VC.block ?_ | refine VC.skip ?_)
    refine VC.region ?_
    refine VR.pure rfl rfl (p_assignI rfl) ?_
    refine VR.nil ?_
    repeat (first | refine VC.seq ?_ | refine VC.block ?_ | refine VC.skip ?_)
    refine VC.loop (σ := Unit) (fun _ => [(0, .slice none 0 0), (2, .int .i64 0)]) (fun _ w => Mem F w Ls) (fun _ => 0) () ⟨rfl, rfl, trivial⟩ hm.pop ?_
    clear hm
    rintro _ A' w hm
    repeat (first | refine VC.seq ?_ | refine VC.block ?_ | refine VC.skip ?_)
    refine VC.region ?_
    refine VR.pure rfl rfl (p_moveI rfl) ?_
    refine VR.pure rfl rfl (p_moveL rfl) ?_
    refine VR.pure rfl rfl (p_len Try.underlying22 rfl) ?_
    refine VR.pure rfl rfl (p_lt rfl rfl) ?_
    refine VR.nil ?_
    repeat (first | refine VC.seq ?_ | refine VC.block ?_ | refine VC.skip ?_)
    refine VC.condD rfl (fun h1 => ?_) (fun h1 => ?_)
    · omega
    · repeat (first | refine VC.seq ?_ | refine VC.block ?_ | refine VC.skip ?_)
      refine VC.exit ?_
      exact ⟨_, ResOf.r0 rfl, hm⟩
  · have hcells : ∀ k, k < n → ∃ a, cur[0 + k]? = some (.int .u8 a) := fun k hk => by
      have h5 : (cur.toList.take (n * 1))[k]? = xs[k]? := by rw [h4]
      have hxl := ho.1
      obtain ⟨u, hu, hum⟩ := get_of (xs := xs) (k := k) (by omega)
      rw [List.getElem?_take, if_pos (by omega), Array.getElem?_toList, hu] at h5
      obtain ⟨a, rfl⟩ := hx u hum
      exact ⟨a, by rw [Nat.zero_add]; exact h5⟩
    clear ho h4 hx
    refine Calls.of_vc Try.func31 rfl Try.ntmps31 rfl ?_
    repeat (first | refine VC.seq ?_ | refine VC.block ?_ | refine VC.skip ?_)
    refine VC.region ?_
    refine VR.pure rfl rfl (p_assignI rfl) ?_
    refine VR.nil ?_
    repeat (first | refine VC.seq ?_ | refine VC.block ?_ | refine VC.skip ?_)
    refine VC.loop (σ := Nat × Array Value) (fun s => [(0, .slice (some ⟨g, 0, none⟩) n c), (2, .int .i64 s.1)])
      (fun s w => s.1 ≤ n ∧ s.2.size = c * 1 ∧ (∀ k, k < n → ∃ a, s.2[0 + k]? = some (.int .u8 a)) ∧ Mem F w ([(g, .cells s.2 5 (0, 0))] :: Ls)) (fun s => n - s.1) (0, cur) ⟨rfl, rfl, trivial⟩ ⟨by omega, h3, hcells, hm⟩ ?_
    clear hm hcells h3
    rintro ⟨i, cur⟩ A' w ⟨hi, hs, hcells, hm⟩
    dsimp only at hi hs hcells hm ⊢
    repeat (first | refine VC.seq ?_ | refine VC.block ?_ | refine VC.skip ?_)
    refine VC.region ?_
    refine VR.pure rfl rfl (p_moveI rfl) ?_
    refine VR.pure rfl rfl (p_moveL rfl) ?_
    refine VR.pure rfl rfl (p_len Try.underlying22 rfl) ?_
    refine VR.pure rfl rfl (p_lt rfl rfl) ?_
    refine VR.nil ?_
    repeat (first | refine VC.seq ?_ | refine VC.block ?_ | refine VC.skip ?_)
    refine VC.condD rfl (fun h1 => ?_) (fun h1 => ?_)
    · have hi' : i < n := by omega
      obtain ⟨a, ha⟩ := hcells i hi'
      repeat (first | refine VC.seq ?_ | refine VC.block ?_ | refine VC.skip ?_)
      refine VC.region ?_
      refine VR.pure rfl rfl (p_moveL rfl) ?_
      refine VR.pure rfl rfl (p_moveI rfl) ?_
      refine VR.pure rfl rfl (p_moveL rfl) ?_
      refine VR.pure rfl rfl (p_moveI rfl) ?_
      refine VR.pure rfl rfl (p_idx1 Try.underlying22 Try.sizeOf5 rfl rfl hi') ?_
      refine VR.val rfl rfl (r_load (v := .int _ _) Try.isAgg5 rfl (hm.at_ 0 0 rfl) ha) ?_
      refine VR.pure rfl rfl (p_xor8 rfl rfl) ?_
      refine VR.pure rfl rfl (p_idx1 Try.underlying22 Try.sizeOf5 rfl rfl hi') ?_
      refine VR.store (cs' := (cur.setIfInBounds (0 + i) (.int .u8 (IntKind.u8.wrap ((BitVec.ofInt 8 a ^^^ BitVec.ofInt 8 255).toNat : Int))))) (v := .int _ _) Try.sizeOf5 rfl rfl rfl rfl rfl hm 0 0 rfl (by omega) rfl ?_
      intro w hm
      refine VR.nil ?_
      repeat (first | refine VC.seq ?_ | refine VC.block ?_ | refine VC.skip ?_)
      refine VC.region ?_
      refine VR.pure rfl rfl (p_moveI rfl) ?_
      refine VR.pure rfl rfl (p_add64 rfl rfl (by omega)) ?_
      refine VR.pure rfl rfl (p_assignI rfl) ?_
      refine VR.nil ?_
      refine ⟨(i + 1, cur.setIfInBounds (0 + i) (.int .u8 (IntKind.u8.wrap ((BitVec.ofInt 8 a ^^^ BitVec.ofInt 8 255).toNat : Int)))), ⟨rfl, rfl, trivial⟩, ⟨by omega, by rw [Array.size_setIfInBounds]; exact hs, fun k hk => ?_, hm⟩, by omega⟩
      rw [Array.getElem?_setIfInBounds]
      by_cases e : 0 + i = 0 + k
      · rw [if_pos e, if_pos (by omega)]
        exact ⟨_, rfl⟩
      · rw [if_neg e]
        exact hcells k hk
    · repeat (first | refine VC.seq ?_ | refine VC.block ?_ | refine VC.skip ?_)
      refine VC.exit ?_
      exact ⟨_, ResOf.r0 rfl, hm.pop⟩
theorem kp1 {b : List Int} (h : b.length ≤ 10000) : appD ⟨1048576, []⟩ nA b = (0, ⟨1048576, [(nA, b, 0)]⟩) := by
  unfold appD
  rw [if_pos (show nameOk nA = true by kernel_rfl), show inA [] nA = none from rfl]
  show (if 4194304 < b.length then _ else if (1048576 : Int) - 0 < b.length then _ else _) = _
  rw [if_neg (by omega), if_neg (by omega)]
  rfl
theorem kp2 {b m : List Int} (h : b.length ≤ 10000) (h2 : m.length ≤ 10000) : appD ⟨1048576, [(nA, b, 0)]⟩ nA m = (0, ⟨1048576, [(nA, b ++ m, 0)]⟩) := by
  unfold appD
  rw [if_pos (show nameOk nA = true by kernel_rfl), show inA [(nA, b, (0 : Int))] nA = some (nA, b, 0) by simp [inA]]
  show (if 4194304 < b.length + m.length then _ else if (1048576 : Int) - ((b.length : Int) + 0) < m.length then _ else _) = _
  rw [if_neg (by omega), if_neg (by omega)]
  simp [updA]
theorem kp3 {b : List Int} : readA ⟨1048576, [(nA, b, 0)]⟩ nA = (0, b) := by simp [readA, inA]
theorem allB {a b : Sl} {La Lb : Blks} {xs ys : List Value} (hn : a.n ≤ 1000000000000) (ha : OwnS 5 1 a.A a.n a.c xs La) (hb : OwnS 5 1 b.A b.n b.c ys Lb) (hn2 : b.n ≤ 1000000000000) :
    All [a, b] [La, Lb] (fun _ (it : Sl) L => it.n ≤ 1000000000000 ∧ ∃ xs, OwnS 5 1 it.A it.n it.c xs L) := ⟨rfl, fun k it L hk hL => by
  match k with
  | 0 =>
    obtain rfl := Option.some.inj (show some a = some it from hk)
    obtain rfl := Option.some.inj (show some La = some L from hL)
    exact ⟨hn, _, ha⟩
  | 1 =>
    obtain rfl := Option.some.inj (show some b = some it from hk)
    obtain rfl := Option.some.inj (show some Lb = some L from hL)
    exact ⟨hn2, _, hb⟩
  | k + 2 => simp at hk⟩
theorem allT {a b : Sl} {La Lb : Blks} {xs ys : List Value} (hn : a.n ≤ 1000000000000) (ha : OwnS 9 1 a.A a.n a.c xs La) (hb : OwnS 9 1 b.A b.n b.c ys Lb) (hn2 : b.n ≤ 1000000000000) :
    All [a, b] [La, Lb] (fun _ (it : Sl) L => it.n ≤ 1000000000000 ∧ ∃ xs, OwnS 9 1 it.A it.n it.c xs L) := ⟨rfl, fun k it L hk hL => by
  match k with
  | 0 =>
    obtain rfl := Option.some.inj (show some a = some it from hk)
    obtain rfl := Option.some.inj (show some La = some L from hL)
    exact ⟨hn, _, ha⟩
  | 1 =>
    obtain rfl := Option.some.inj (show some b = some it from hk)
    obtain rfl := Option.some.inj (show some Lb = some L from hL)
    exact ⟨hn2, _, hb⟩
  | k + 2 => simp at hk⟩
theorem All.head {a b : Sl} {Ms : List Blks} {Φ : Nat → Sl → Blks → Prop} (h : All [a, b] Ms Φ) : ∃ M N, Ms = [M, N] ∧ Φ 0 a M ∧ Φ 1 b N := by
  have h1 := h.1
  match Ms, h1 with
  | [M, N], _ => exact ⟨M, N, rfl, h.2 0 a M rfl rfl, h.2 1 b N rfl rfl⟩
/-- What is read and told, one's own. -/
theorem readO {F : Env} {w : World} {Ls : List Blks} {g m : Nat} {D : Dk} {d : Da} {s : ByteArray} {c : Int} {l : List Int} (hm : Mem F w (dkB g m D ++ Ls)) (hD : DkOk D) (ha : D.abs = d) (h : readA d s = (c, l)) :
    Calls Try.prog 16 #[.pointer (some ⟨g, 0, none⟩), .string s] w (Ret fun v w' => ∃ A k q L, v = .tuple #[.slice A k q, .int .i64 c] ∧ k = l.length ∧ OwnS 5 1 A k q (bytes l) L ∧ Mem F w' (L :: (dkB g m D ++ Ls))) :=
  Ret.mono (read_c hm.focus hD) fun v w' ⟨A, k, q, L, h1, h2, h3, h4⟩ => by
    rw [ha, h] at h1 h2
    refine ⟨A, k, q, L, h1, ?_, h2, hm.unL h4⟩
    have h5 : (bytes l).length = k * 1 := h2.1
    rw [List.length_map] at h5
    omega
theorem listO {F : Env} {w : World} {Ls : List Blks} {g m : Nat} {D : Dk} {d : Da} {l : List ByteArray} (hm : Mem F w (dkB g m D ++ Ls)) (hD : DkOk D) (ha : D.abs = d) (hl : d.fs.length ≤ 1000000) (h : sortN (d.fs.map (·.1)) = l) :
    Calls Try.prog 20 #[.pointer (some ⟨g, 0, none⟩)] w (Ret fun v w' => ∃ A q L, v = .slice A l.length q ∧ OwnS 9 1 A l.length q (texts l) L ∧ Mem F w' (L :: (dkB g m D ++ Ls))) :=
  Ret.mono (list_c hm.focus hD (by rw [fs_len ha]; exact hl)) fun v w' ⟨A, q, L, h1, h2, h5⟩ => by
    rw [ha, h] at h1 h2
    exact ⟨A, q, L, h1, h2, hm.unL h5⟩
theorem bring_own (X : Blks) (A B : List Blks) : (A ++ (X :: B)).flatten.Perm (X :: (A ++ B)).flatten := by
  simp only [List.flatten_cons, List.flatten_append]
  rw [← List.append_assoc, ← List.append_assoc]
  exact (List.perm_append_comm).append_right _
theorem Mem.front {F : Env} {w : World} {X : Blks} {A B : List Blks} (h : Mem F w (A ++ (X :: B))) : Mem F w (X :: (A ++ B)) := h.permF (bring_own X A B)
theorem Mem.behind {F : Env} {w : World} {X : Blks} {A B : List Blks} (h : Mem F w (X :: (A ++ B))) : Mem F w (A ++ (X :: B)) := h.permF (bring_own X A B).symm

theorem Mem.inR {F : Env} {w : World} {A B : List Blks} {L : Blks} (h : Mem F w (A ++ B)) (hL : L ∈ B) : ∀ p ∈ L, (F.plus B).heap p.1 = some p.2 := (show Mem F w B from h.subF (by simp)).plus_mem hL
theorem front4 (A : List Blks) (a b c d : Blks) : (A ++ (a :: b :: c :: d :: [])).flatten.Perm (d :: c :: (A ++ (a :: b :: []))).flatten := by
  have h1 : (A ++ (a :: b :: c :: d :: [])).Perm (d :: c :: (A ++ (a :: b :: []))) := by
    have h2 : ((A ++ [a, b]) ++ [c, d]).Perm ([c, d] ++ (A ++ [a, b])) := List.perm_append_comm
    have e : (A ++ [a, b]) ++ [c, d] = A ++ (a :: b :: c :: d :: []) := by simp
    rw [e] at h2
    exact h2.trans (List.Perm.swap d c _)
  exact h1.flatten
theorem front2 (M : Blks) (A : List Blks) (a b : Blks) : (M :: (A ++ (a :: b :: []))).flatten.Perm (b :: a :: M :: (A ++ [])).flatten := by
  have h1 : (M :: (A ++ (a :: b :: []))).Perm (b :: a :: M :: (A ++ [])) := by
    have h2 : ((M :: A) ++ [a, b]).Perm ([a, b] ++ (M :: A)) := List.perm_append_comm
    rw [List.append_nil]
    exact h2.trans (List.Perm.swap b a _)
  exact h1.flatten
set_option maxHeartbeats 16000000 in
theorem disk_keeps_c {F : Env} {w : World} {A B : Option Addr} {n c q d : Nat} {b mo : List Int} (hm : Mem F w []) (hnc : n ≤ c ∧ c ≤ maxLen) (hr : BRow F.heap A n b) (hs : BRow F.heap B q mo) :
    Calls Try.prog 5 #[.slice A n c, .slice B q d] w (Ret fun v w' => v = .bool true ∧ Mem F w' []) := by
  have hl := BRow.len hr
  have hl2 := BRow.len hs
  refine Calls.of_vc Try.func5 rfl Try.ntmps5 rfl ?_
  repeat (first | refine VC.seq ?_ | refine VC.block ?_ | refine VC.skip ?_)
  refine VC.region ?_
  refine VR.pure rfl rfl (p_assignB rfl) ?_
  refine VR.nil ?_
  repeat (first | refine VC.seq ?_ | refine VC.block ?_ | refine VC.skip ?_)
  refine VC.region ?_
  refine VR.pure rfl rfl (p_moveL rfl) ?_
  refine VR.pure rfl rfl (p_len Try.underlying22 rfl) ?_
  refine VR.pure rfl rfl (p_gt rfl rfl) ?_
  refine VR.pure rfl rfl (p_moveB rfl) ?_
  refine VR.splitD 18 rfl (fun h3 => ?_) (fun h3 => ?_)
  refine VR.pass rfl rfl ?_
  refine VR.pass rfl rfl ?_
  refine VR.pass rfl rfl ?_
  refine VR.pure rfl rfl (p_pickT rfl rfl) ?_
  refine VR.nil ?_
  rotate_left 1
  refine VR.pureG rfl rfl (p_moveL rfl) ?_
  refine VR.pureG rfl rfl (p_len Try.underlying22 rfl) ?_
  refine VR.pureG rfl rfl (p_gt rfl rfl) ?_
  refine VR.pure rfl rfl (p_pickF rfl rfl) ?_
  refine VR.nil ?_
  rotate_left 1
  · repeat (first | refine VC.seq ?_ | refine VC.block ?_ | refine VC.skip ?_)
    refine VC.condT rfl rfl ?_
    repeat (first | refine VC.seq ?_ | refine VC.block ?_ | refine VC.skip ?_)
    refine VC.region ?_
    refine VR.call rfl rfl (r_call0 Try.call10) (awake_c hm) ?_
    rintro _ w ⟨rfl, hm⟩
    refine VR.pure rfl rfl (p_assignB rfl) ?_
    refine VR.nil ?_
    repeat (first | refine VC.seq ?_ | refine VC.block ?_ | refine VC.skip ?_)
    refine VC.ret ⟨_, ResOf.r1 (v := .bool _) rfl rfl, ?_⟩
    exact ⟨rfl, hm⟩
  · repeat (first | refine VC.seq ?_ | refine VC.block ?_ | refine VC.skip ?_)
    refine VC.condD rfl (fun h6 => ?_) (fun h6 => ?_)
    · repeat (first | refine VC.seq ?_ | refine VC.block ?_ | refine VC.skip ?_)
      refine VC.region ?_
      refine VR.call rfl rfl (r_call0 Try.call10) (awake_c hm) ?_
      rintro _ w ⟨rfl, hm⟩
      refine VR.pure rfl rfl (p_assignB rfl) ?_
      refine VR.nil ?_
      repeat (first | refine VC.seq ?_ | refine VC.block ?_ | refine VC.skip ?_)
      refine VC.ret ⟨_, ResOf.r1 (v := .bool _) rfl rfl, ?_⟩
      exact ⟨rfl, hm⟩
    · have hbl : b.length ≤ 10000 := by omega
      have hml : mo.length ≤ 10000 := by omega
      repeat (first | refine VC.seq ?_ | refine VC.block ?_ | refine VC.skip ?_)
      refine VC.region ?_
      refine VR.call rfl rfl (r_call1 Try.call11 rfl) (newK hm (by decide) (c := 1048576) (by decide)) ?_
      rintro _ w ⟨g, m, D0, rfl, ha0, hD0, hm⟩
      refine VR.pure rfl rfl (p_assignP rfl) ?_
      refine VR.nil ?_
      repeat (first | refine VC.seq ?_ | refine VC.block ?_ | refine VC.skip ?_)
      refine VC.region ?_
      refine VR.pure rfl rfl (p_moveL rfl) ?_
      refine VR.call rfl rfl (r_call1 Try.call26 rfl) (lentB_c hm (by omega) hr) ?_
      rintro _ w ⟨A6, c6, L6, rfl, ho6, hm⟩
      refine VR.pure rfl rfl (p_assignL rfl) ?_
      refine VR.nil ?_
      replace hm : Mem F w (dkB g m D0 ++ (L6 :: [])) := (show Mem F w (L6 :: (dkB g m D0 ++ [])) from hm).behind
      have hc6 := ho6.le
      have hrow6 : ∀ H : Nat → Option Obj, (∀ p ∈ L6, H p.1 = some p.2) → BRow H A6 n b := fun H hH => by
        have h1 := Row.take (ho6.row1 hH) (k := n) (by omega)
        have e : (bytes (b ++ marksB 12)).take n = bytes b := by
          unfold bytes
          rw [← List.map_take, List.take_left' hl]
        rwa [e] at h1
      repeat (first | refine VC.seq ?_ | refine VC.block ?_ | refine VC.skip ?_)
      refine VC.region ?_
      refine VR.pure rfl rfl (p_moveP rfl) ?_
      refine VR.pure rfl rfl (p_moveL rfl) ?_
      refine VR.call rfl rfl (r_call3 Try.call12 rfl rfl rfl) (append_c hm.focus hD0 (by decide) (by omega) (hrow6 _ (hm.inR (.head _)))) ?_
      rintro _ w ⟨D1, rfl, ha1, hD1, hm'⟩
      replace hm := hm.unL hm'
      refine VR.nil ?_
      have e1 : D1.abs = ⟨1048576, [(nA, b, 0)]⟩ := by rw [ha1, ha0, kp1 hbl]
      repeat (first | refine VC.seq ?_ | refine VC.block ?_ | refine VC.skip ?_)
      refine VC.region ?_
      refine VR.pure rfl rfl (p_moveL rfl) ?_
      refine VR.pure rfl rfl (p_moveL rfl) ?_
      refine VR.call rfl rfl (r_call2 Try.call27 rfl rfl) (keptB_c hm.all (by omega) hc6.1 (ho6.row1 (hm.plus_mem (List.mem_append_right _ (.head _)))) (Row.mono hr hm.le)) ?_
      rintro _ w ⟨rfl, hm'⟩
      replace hm := hm.back0 hm'
      refine VR.pure rfl rfl (p_not rfl) ?_
      refine VR.nil ?_
      repeat (first | refine VC.seq ?_ | refine VC.block ?_ | refine VC.skip ?_)
      refine VC.condF rfl rfl ?_
      replace hm := hm.front
      repeat (first | refine VC.seq ?_ | refine VC.block ?_ | refine VC.skip ?_)
      refine VC.region ?_
      refine VR.pure rfl rfl (p_moveL rfl) ?_
      refine VR.call rfl rfl (r_call1 Try.call28 rfl) (overB_c hm (by omega) ho6) ?_
      rintro v1 w hm
      refine VR.nil ?_
      repeat (first | refine VC.seq ?_ | refine VC.block ?_ | refine VC.skip ?_)
      refine VC.region ?_
      refine VR.pure rfl rfl (p_moveP rfl) ?_
      refine VR.call rfl rfl (r_call2 Try.call16 rfl rfl) (readO hm hD1 e1 kp3) ?_
      rintro _ w ⟨A7, k7, q7, L7, rfl, hk7, ho7, hm⟩
      refine VR.pure rfl rfl (p_moveT rfl) ?_
      refine VR.pure rfl rfl (p_extract rfl rfl) ?_
      refine VR.pure rfl rfl (p_extract rfl rfl) ?_
      refine VR.pure rfl rfl (p_assignL rfl) ?_
      refine VR.pure rfl rfl (p_assignI rfl) ?_
      refine VR.nil ?_
      replace hm := hm.behind
      subst hk7
      repeat (first | refine VC.seq ?_ | refine VC.block ?_ | refine VC.skip ?_)
      refine VC.region ?_
      refine VR.pure rfl rfl (p_moveP rfl) ?_
      refine VR.call rfl rfl (r_call2 Try.call16 rfl rfl) (readO hm hD1 e1 kp3) ?_
      rintro _ w ⟨A9, k9, q9, L9, rfl, hk9, ho9, hm⟩
      refine VR.pure rfl rfl (p_moveT rfl) ?_
      refine VR.pure rfl rfl (p_extract rfl rfl) ?_
      refine VR.pure rfl rfl (p_extract rfl rfl) ?_
      refine VR.pure rfl rfl (p_assignL rfl) ?_
      refine VR.pure rfl rfl (p_assignI rfl) ?_
      refine VR.nil ?_
      replace hm := hm.behind
      subst hk9
      have hn1 : ([(nA, b, (0 : Int))] : List Fa).length ≤ 1000000 := by show 1 ≤ _; omega
      repeat (first | refine VC.seq ?_ | refine VC.block ?_ | refine VC.skip ?_)
      refine VC.region ?_
      refine VR.pure rfl rfl (p_moveP rfl) ?_
      refine VR.call rfl rfl (r_call1 Try.call20 rfl) (listO hm hD1 e1 hn1 (sort1 nA)) ?_
      rintro _ w ⟨A11, q11, L11, rfl, ho11, hm⟩
      replace hm := hm.behind
      refine VR.pure rfl rfl (p_moveP rfl) ?_
      refine VR.call rfl rfl (r_call1 Try.call20 rfl) (listO hm hD1 e1 hn1 (sort1 nA)) ?_
      rintro _ w ⟨A12, q12, L12, rfl, ho12, hm⟩
      replace hm := hm.behind
      refine VR.pure rfl rfl (p_assignL rfl) ?_
      refine VR.pure rfl rfl (p_assignL rfl) ?_
      refine VR.nil ?_
      have h7 := ho7.le
      have h9 := ho9.le
      repeat (first | refine VC.seq ?_ | refine VC.block ?_ | refine VC.skip ?_)
      refine VC.region ?_
      refine VR.pure rfl rfl (p_moveL rfl) ?_
      refine VR.pure rfl rfl (p_moveL rfl) ?_
      refine VR.call rfl rfl (r_call2 Try.call17 rfl rfl) (same_bytes_c (xs := b) (ys := b) hm.all (by unfold maxLen; omega) (ho7.row1 (hm.plus_mem (List.mem_append_right _ (.tail _ (.tail _ (.tail _ (.head _))))))) (Row.mono hr hm.le)) ?_
      rintro _ w ⟨rfl, hm'⟩
      replace hm := hm.back0 hm'
      refine VR.pure rfl rfl (p_not rfl) ?_
      refine VR.pure rfl rfl (p_moveB rfl) ?_
      refine VR.knownF 54 rfl (by rw [decide_eq_true rfl]; rfl) ?_
      refine VR.pureG rfl rfl (p_moveL rfl) ?_
      refine VR.pureG rfl rfl (p_moveL rfl) ?_
      refine VR.newG hm rfl rfl (n_buildSlice1 (vs := [.slice _ _ _, .slice _ _ _]) Try.underlying46 inf22 rfl rfl rfl rfl rfl rfl rfl) ?_
      intro b57 w hm
      obtain ⟨G1, hu1, hm, hb57⟩ := hm.freeze
      replace hm := hm.permF (front4 _ _ _ _ _)
      refine VR.callG rfl rfl (r_call1 Try.call29 rfl) (apart_bytes_c (Ms := [L7, L9]) (its := [⟨A7, b.length, q7⟩, ⟨A9, b.length, q9⟩]) hm (Row.lit (cs := [.slice A7 b.length q7, .slice A9 b.length q9]) (hb57 _ (.head _))) (by decide) (allB (by show b.length ≤ _; omega) ho7 ho9 (by show b.length ≤ _; omega))) ?_
      rintro _ w ⟨rfl, Ms2, hall2, hm⟩
      refine VR.pureG rfl rfl (p_not rfl) ?_
      refine VR.pure rfl rfl (p_pickF rfl rfl) ?_
      refine VR.pure rfl rfl (p_moveB rfl) ?_
      refine VR.knownF 61 rfl rfl ?_
      refine VR.pureG rfl rfl (p_moveL rfl) ?_
      refine VR.pureG rfl rfl (p_moveL rfl) ?_
      refine VR.newG hm rfl rfl (n_buildSlice1 (vs := [.slice _ _ _, .slice _ _ _]) Try.underlying48 inf36 rfl rfl rfl rfl rfl rfl rfl) ?_
      intro b64 w hm
      obtain ⟨G2, hu2, hm, hb64⟩ := hm.freeze
      obtain ⟨M, N, rfl, hoM, hoN⟩ := hall2.head
      replace hm : Mem G2 w (M :: (dkB g m D1 ++ (L12 :: L11 :: []))) := (show Mem G2 w (M :: N :: (dkB g m D1 ++ (L12 :: L11 :: []))) from hm).pop2
      replace hm := hm.permF (front2 _ _ _ _)
      refine VR.callG rfl rfl (r_call1 Try.call30 rfl) (apart_texts_c (Ms := [L11, L12]) (its := [⟨A11, 1, q11⟩, ⟨A12, 1, q12⟩]) hm (Row.lit (cs := [.slice A11 1 q11, .slice A12 1 q12]) (hb64 _ (.head _))) (by decide) (allT (by show 1 ≤ 1000000000000; decide) ho11 ho12 (by show 1 ≤ 1000000000000; decide))) ?_
      rintro _ w ⟨rfl, hm⟩
      refine VR.pureG rfl rfl (p_not rfl) ?_
      refine VR.pure rfl rfl (p_pickF rfl rfl) ?_
      refine VR.nil ?_
      repeat (first | refine VC.seq ?_ | refine VC.block ?_ | refine VC.skip ?_)
      refine VC.condF rfl rfl ?_
      repeat (first | refine VC.seq ?_ | refine VC.block ?_ | refine VC.skip ?_)
      refine VC.region ?_
      refine VR.pure rfl rfl (p_moveL rfl) ?_
      refine VR.call rfl rfl (r_call1 Try.call31 rfl) (turnB_c hm (by omega) hoM) ?_
      rintro v1 w hm
      refine VR.nil ?_
      have hs2 := Row.mono (Row.mono hs hu1.heap) hu2.heap
      have hr2 := Row.mono (Row.mono hr hu1.heap) hu2.heap
      repeat (first | refine VC.seq ?_ | refine VC.block ?_ | refine VC.skip ?_)
      refine VC.region ?_
      refine VR.pure rfl rfl (p_moveP rfl) ?_
      refine VR.pure rfl rfl (p_moveL rfl) ?_
      refine VR.call rfl rfl (r_call3 Try.call12 rfl rfl rfl) (appK hm hD1 e1 (by decide) (by omega) hs2 (kp2 hbl hml)) ?_
      rintro _ w ⟨D2, rfl, e2, hD2, hm⟩
      refine VR.nil ?_
      repeat (first | refine VC.seq ?_ | refine VC.block ?_ | refine VC.skip ?_)
      refine VC.region ?_
      refine VR.pure rfl rfl (p_moveP rfl) ?_
      refine VR.call rfl rfl (r_call2 Try.call16 rfl rfl) (readK hm hD2 e2 kp3) ?_
      rintro _ w ⟨A13, k13, q13, G3, rfl, hk13, _, hu3, hr13, hm⟩
      refine VR.pure rfl rfl (p_moveT rfl) ?_
      refine VR.pure rfl rfl (p_extract rfl rfl) ?_
      refine VR.pure rfl rfl (p_extract rfl rfl) ?_
      refine VR.pure rfl rfl (p_assignL rfl) ?_
      refine VR.pure rfl rfl (p_assignI rfl) ?_
      refine VR.nil ?_
      have hs3 : Row G3.heap B (q * 1) (bytes mo) := by rw [Nat.mul_one]; exact Row.mono hs2 hu3.heap
      repeat (first | refine VC.seq ?_ | refine VC.block ?_ | refine VC.skip ?_)
      refine VC.region ?_
      refine VR.pure rfl rfl (p_moveI rfl) ?_
      refine VR.pure rfl rfl (p_eq rfl rfl) ?_
      refine VR.pure rfl rfl (p_moveB rfl) ?_
      refine VR.knownT 80 rfl (decide_eq_true rfl) ?_
      refine VR.pureG rfl rfl (p_moveL rfl) ?_
      refine VR.pureG rfl rfl (p_moveL rfl) ?_
      refine VR.callG rfl rfl (r_call1 Try.call32 rfl) (copyB_c hm (by omega) (Row.mono hr2 hu3.heap)) ?_
      rintro _ w ⟨A5, c5, L5, rfl, ho5, hm⟩
      refine VR.pureG rfl rfl (p_moveL rfl) ?_
      refine VR.appendG (s := 1) (bytes := 1) Try.underlying22 inf5 rfl rfl rfl rfl rfl rfl rfl rfl rfl hm ho5 (hs3.mono hm.fix) (bytes_one mo) rfl ⟨by unfold maxLen; omega, by omega⟩ ?_
      intro A8 c8 w L8 ho8 hm
      obtain ⟨G4, hu4, hm, hL8⟩ := hm.freeze
      have hr8 : BRow G4.heap A8 (n + q) (b ++ mo) := by show Row _ _ _ (bytes (b ++ mo)); rw [show bytes (b ++ mo) = bytes b ++ bytes mo from List.map_append]; exact ho8.row1 hL8
      refine VR.callG rfl rfl (r_call2 Try.call17 rfl rfl) (same_bytes_c hm (by rw [hk13, List.length_append]; unfold maxLen; omega) (Row.mono hr13 hu4.heap) hr8) ?_
      rintro _ w ⟨rfl, hm⟩
      refine VR.pure rfl rfl (p_pickT rfl rfl) ?_
      refine VR.pure rfl rfl (p_moveB rfl) ?_
      refine VR.knownT 88 rfl (decide_eq_true rfl) ?_
      refine VR.callG rfl rfl (r_call0 Try.call10) (awake_c hm) ?_
      rintro _ w ⟨rfl, hm⟩
      refine VR.pure rfl rfl (p_pickT rfl rfl) ?_
      refine VR.pure rfl rfl (p_assignB rfl) ?_
      refine VR.nil ?_
      repeat (first | refine VC.seq ?_ | refine VC.block ?_ | refine VC.skip ?_)
      refine VC.ret ⟨_, ResOf.r1 (v := .bool _) rfl rfl, ?_⟩
      exact ⟨rfl, (show Mem G4 w [] from hm.subF (List.nil_sublist _)).shrink (((hu1.trans hu2).trans hu3).trans hu4)⟩
end Go.Bd
namespace Go.Proofs.Ytjohjlhjeommiaa
open Go.Bd Go.ChangeShapes Go.WideShapes

set_option maxRecDepth 100000 in
theorem keeps_lifted (os : Os) (started : os.Started) (H : Type) (enc : TypeId × Value → H) :
    ReturnsInHanded {} Try.checked os 5 .any (Rows.diskKeepsSpec.pre6 enc Try.prog Try.f5 Rows.diskKeepsRow.domain false) (Rows.diskKeepsSpec.post enc Try.prog Try.f5 false true false false) := by
  refine law_frame (C := Try.checked) (tb := 4) (by kernel_rfl) (by kernel_rfl) started (by kernel_rfl) Try.func5 rfl rfl Try.underlying4 (by kernel_rfl) ?_
    (ChangeSpec.witness6 (enc := enc) (C := Try.checked) false ⟨#[], #[.slice none 0 0, .slice none 0 0], []⟩ 8 (by kernel_rfl) (by kernel_rfl) (by kernel_rfl) (by kernel_rfl)) ?_
  · intro ds hl
    match ds, hl with
    | [d1, d2], _ => rfl
  · intro W base args ds p hval hA hwt
    replace hA : DataW.TrodAll enc Try.prog W 0 (fun _ => true) true Try.f5.params.toList args.toList ds p := hA
    rw [Try.params5] at hA hval
    replace hwt : (DataW.weightsEach Try.prog [22, 22] ds).all (· ≤ reachBytes) = true := hwt
    obtain ⟨v0, vs0, d0, ds0, p0, q0, hargs, rfl, rfl, h0, r0⟩ := trodAll_cons hA
    obtain ⟨v1, vs1, d1, ds1, p1, q1, rfl, rfl, rfl, h1, r1⟩ := trodAll_cons r0
    obtain ⟨rfl, rfl, rfl⟩ := trodAll_nil r1
    obtain rfl : args = #[v0, v1] := by cases args; simp_all
    obtain ⟨A0, n0, c0, xs0, rfl, hn0, hc0, hr0, w0, hd0⟩ := arg_ints Try.underlying22 Try.underlying5 (by kernel_rfl) (hval 0 22 v0 rfl rfl) h0
    obtain ⟨A1, n1, c1, xs1, rfl, hn1, hc1, hr1, w1, hd1⟩ := arg_ints Try.underlying22 Try.underlying5 (by kernel_rfl) (hval 1 22 v1 rfl rfl) h1
    exact disk_keeps_c (Mem.of W) ⟨hn0, hc0⟩ hr0 hr1

theorem keeps : Rows.DiskKeepsSaid :=
  OpenClaim.holds_of_wide 5 Try.f5 rfl rfl rfl rfl rfl rfl rfl ⟨rfl, rfl, rfl, rfl, rfl⟩ rfl rfl rfl rfl rfl (by kernel_rfl) Try.func5 (by kernel_rfl)
    (of_decide_eq_true (by kernel_rfl)) (by unfold Func.isWrapper; rw [if_neg (of_decide_eq_false (by kernel_rfl))]; exact ⟨rfl, rfl⟩)
    (fun os started H enc _ => keeps_lifted os started H enc)
end Go.Proofs.Ytjohjlhjeommiaa
