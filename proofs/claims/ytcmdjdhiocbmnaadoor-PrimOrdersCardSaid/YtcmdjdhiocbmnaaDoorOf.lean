/- The table of primitives and the functions that look into it: what each tells, for every number and name. -/
import Derived.Test.YtcmdjdhiocbmnaaDoorProg
import Derived.Test.YtcmdjdhiocbmnaaDoorKit
import Derived.ShutString
import Derived.WideShapes
namespace Go.Proofs.YtcmdjdhiocbmnaaDoor.Of
open Go.RowKit
/-- A string of given bytes. -/
def str (l : List UInt8) : ByteArray := ⟨l.toArray⟩
def names : List (List UInt8) := [[], [35, 97, 100, 100], [35, 115, 117, 98], [35, 109, 117, 108], [35, 100, 105, 118], [35, 114, 101, 109], [35, 101, 113], [35, 108, 116], [35, 101, 109, 105, 116], [35, 115, 101, 113], [35, 114, 101, 102], [35, 103, 101, 116], [35, 115, 101, 116], [35, 97, 114, 114], [35, 97, 116], [35, 112, 117, 116], [35, 108, 101, 110]]
def arities : List Int := [0, 2, 2, 2, 2, 2, 2, 2, 1, 2, 1, 1, 2, 2, 2, 3, 1]
def needs : List (List Int) := [[0, 0, 0], [2, 2, 0], [2, 2, 0], [2, 2, 0], [2, 2, 0], [2, 2, 0], [2, 2, 0], [2, 2, 0], [2, 0, 0], [1, 0, 0], [0, 0, 0], [3, 0, 0], [3, 0, 0], [2, 0, 0], [4, 2, 0], [4, 2, 0], [4, 0, 0]]
def nm (i : Nat) : ByteArray := str (names.getD i [])
def ar (i : Nat) : Int := arities.getD i 0
def nd (i j : Nat) : Int := (needs.getD i []).getD j 0
/-- The table as the program's text lays it. -/
structure Tab (w : World) : Prop where
  size : 0 < w.heap.size
  name : ∀ i, i < 17 → w.cell? ⟨0, i * 5, none⟩ = some (.string (nm i))
  arity : ∀ i, i < 17 → w.cell? ⟨0, i * 5 + 1, none⟩ = some (.int .i64 (ar i))
  need0 : ∀ i, i < 17 → w.cell? ⟨0, i * 5 + 2, none⟩ = some (.int .i64 (nd i 0))
  need1 : ∀ i, i < 17 → w.cell? ⟨0, i * 5 + 3, none⟩ = some (.int .i64 (nd i 1))
  need2 : ∀ i, i < 17 → w.cell? ⟨0, i * 5 + 4, none⟩ = some (.int .i64 (nd i 2))
theorem of_in (k : Nat) (w : World) (T : Tab w) (h1 : 1 ≤ k) (h2 : k < 17) :
    Calls Tryd.prog 19 #[.int .i64 (k : Int)] w fun e w' => e = .returned (.agg #[.string (nm k), .int .i64 (ar k), .int .i64 (nd k 0), .int .i64 (nd k 1), .int .i64 (nd k 2)]) ∧ Below w.heap.size w w' := by
  have t0 := T.name k h2
  have t1 := T.arity k h2
  have t2 := T.need0 k h2
  have t3 := T.need1 k h2
  have t4 := T.need2 k h2
  have hz := T.size
  clear T
  go_enter Tryd.func19, Tryd.ntmps19
  go_wp2_with fail
  exact bodyPost_ret (v := .agg #[.string (nm k), .int .i64 (ar k), .int .i64 (nd k 0), .int .i64 (nd k 1), .int .i64 (nd k 2)]) (by simp [results, Tryd.results19, go_sem]) rfl ⟨rfl, (Below.refl _ _).alloc (Nat.le_refl _) _⟩
theorem of_out (n : Int) (w : World) (h : n < 1 ∨ 17 ≤ n) :
    Calls Tryd.prog 19 #[.int .i64 n] w fun e w' => e = .returned (.agg #[.string (str []), .int .i64 0, .int .i64 0, .int .i64 0, .int .i64 0]) ∧ Below w.heap.size w w' := by
  by_cases c : n < 1
  · go_enter Tryd.func19, Tryd.ntmps19
    go_wp2_with fail
    exact bodyPost_ret (v := .agg #[.string (str []), .int .i64 0, .int .i64 0, .int .i64 0, .int .i64 0]) (by simp [results, Tryd.results19, go_sem, str]) rfl ⟨rfl, (Below.refl _ _).alloc (Nat.le_refl _) _⟩
  · have h' : 17 ≤ n := by omega
    clear h
    go_enter Tryd.func19, Tryd.ntmps19
    go_wp2_with fail
    exact bodyPost_ret (v := .agg #[.string (str []), .int .i64 0, .int .i64 0, .int .i64 0, .int .i64 0]) (by simp [results, Tryd.results19, go_sem, str]) rfl ⟨rfl, (Below.refl _ _).alloc (Nat.le_refl _) _⟩

/-- A number's row; nobody's, if there is none. -/
def inTab (n : Int) : Prop := 1 ≤ n ∧ n < 17
instance (n : Int) : Decidable (inTab n) := by unfold inTab; infer_instance
def nameOf (n : Int) : ByteArray := if inTab n then nm n.toNat else str []
def arityOf (n : Int) : Int := if inTab n then ar n.toNat else 0
def needOf (n i : Int) : Int := if inTab n then (if 0 ≤ i ∧ i < 3 then nd n.toNat i.toNat else 0) else 0
theorem of_any (n : Int) (w : World) (T : Tab w) :
    Calls Tryd.prog 19 #[.int .i64 n] w fun e w' => e = .returned (.agg #[.string (nameOf n), .int .i64 (arityOf n), .int .i64 (needOf n 0), .int .i64 (needOf n 1), .int .i64 (needOf n 2)]) ∧ Below w.heap.size w w' := by
  unfold nameOf arityOf needOf
  by_cases c : inTab n
  · simp only [if_pos c]
    unfold inTab at c
    obtain ⟨k, rfl⟩ := Int.eq_ofNat_of_zero_le (show 0 ≤ n by omega)
    exact of_in k w T (by omega) (by omega)
  · simp only [if_neg c]
    unfold inTab at c
    exact of_out n w (by omega)
theorem field0 (a b c d e : Value) (w : World) : Sem.run Tryd.prog (Instr.field 36 (.agg #[a, b, c, d, e]) 0) w = .ok a w := by kernel_rfl
theorem field1 (a b c d e : Value) (w : World) : Sem.run Tryd.prog (Instr.field 36 (.agg #[a, b, c, d, e]) 1) w = .ok b w := by kernel_rfl
theorem field2 (a b c d e : Value) (w : World) : Sem.run Tryd.prog (Instr.field 36 (.agg #[a, b, c, d, e]) 2) w = .ok (.agg #[c, d, e]) w := by kernel_rfl
theorem index0 (c d e : Value) (w : World) : Sem.run Tryd.prog (Instr.index 34 (.agg #[c, d, e]) (.int .i64 0)) w = .ok c w := by kernel_rfl
theorem index1 (c d e : Value) (w : World) : Sem.run Tryd.prog (Instr.index 34 (.agg #[c, d, e]) (.int .i64 1)) w = .ok d w := by kernel_rfl
theorem index2 (c d e : Value) (w : World) : Sem.run Tryd.prog (Instr.index 34 (.agg #[c, d, e]) (.int .i64 2)) w = .ok e w := by kernel_rfl
theorem name_any (n : Int) (w : World) (T : Tab w) :
    Calls Tryd.prog 9 #[.int .i64 n] w fun e w' => e = .returned (.string (nameOf n)) ∧ Below w.heap.size w w' := by
  have hf := field0
  go_enter Tryd.func9, Tryd.ntmps9
  go_wp2_with fail
  refine (of_any n _ T).mono ?_; rintro e w1 ⟨rfl, hb⟩
  have B := Lib.hid hb
  clear hb
  go_wp2_with fail
  go_ret
  exact ⟨rfl, B⟩
theorem arity_any (n : Int) (w : World) (T : Tab w) :
    Calls Tryd.prog 15 #[.int .i64 n] w fun e w' => e = .returned (.int .i64 (arityOf n)) ∧ Below w.heap.size w w' := by
  have hf := field1
  go_enter Tryd.func15, Tryd.ntmps15
  go_wp2_with fail
  refine (of_any n _ T).mono ?_; rintro e w1 ⟨rfl, hb⟩
  have B := Lib.hid hb
  clear hb
  go_wp2_with fail
  go_ret
  exact ⟨rfl, B⟩
theorem need_out (n i : Int) (w : World) (h : i < 0 ∨ 3 ≤ i) :
    Calls Tryd.prog 17 #[.int .i64 n, .int .i64 i] w fun e w' => e = .returned (.int .i64 (needOf n i)) ∧ Below w.heap.size w w' := by
  have e : needOf n i = 0 := by unfold needOf; split <;> first | rfl | rw [if_neg (by omega)]
  rw [e]
  by_cases c : i < 0
  · go_enter Tryd.func17, Tryd.ntmps17
    go_wp2_with fail
    go_ret
    exact ⟨rfl, Below.refl _ _⟩
  · have c' : 3 ≤ i := by omega
    clear h
    go_enter Tryd.func17, Tryd.ntmps17
    go_wp2_with fail
    go_ret
    exact ⟨rfl, Below.refl _ _⟩
theorem need_0 (n : Int) (w : World) (T : Tab w) :
    Calls Tryd.prog 17 #[.int .i64 n, .int .i64 0] w fun e w' => e = .returned (.int .i64 (needOf n 0)) ∧ Below w.heap.size w w' := by
  have hf := field2
  have hi := index0
  go_enter Tryd.func17, Tryd.ntmps17
  go_wp2_with fail
  refine (of_any n _ T).mono ?_; rintro e w1 ⟨rfl, hb⟩
  have B := Lib.hid hb
  clear hb
  go_wp2_with fail
  go_ret
  exact ⟨rfl, B⟩
theorem need_1 (n : Int) (w : World) (T : Tab w) :
    Calls Tryd.prog 17 #[.int .i64 n, .int .i64 1] w fun e w' => e = .returned (.int .i64 (needOf n 1)) ∧ Below w.heap.size w w' := by
  have hf := field2
  have hi := index1
  go_enter Tryd.func17, Tryd.ntmps17
  go_wp2_with fail
  refine (of_any n _ T).mono ?_; rintro e w1 ⟨rfl, hb⟩
  have B := Lib.hid hb
  clear hb
  go_wp2_with fail
  go_ret
  exact ⟨rfl, B⟩
theorem need_2 (n : Int) (w : World) (T : Tab w) :
    Calls Tryd.prog 17 #[.int .i64 n, .int .i64 2] w fun e w' => e = .returned (.int .i64 (needOf n 2)) ∧ Below w.heap.size w w' := by
  have hf := field2
  have hi := index2
  go_enter Tryd.func17, Tryd.ntmps17
  go_wp2_with fail
  refine (of_any n _ T).mono ?_; rintro e w1 ⟨rfl, hb⟩
  have B := Lib.hid hb
  clear hb
  go_wp2_with fail
  go_ret
  exact ⟨rfl, B⟩
theorem need_any (n i : Int) (w : World) (T : Tab w) :
    Calls Tryd.prog 17 #[.int .i64 n, .int .i64 i] w fun e w' => e = .returned (.int .i64 (needOf n i)) ∧ Below w.heap.size w w' := by
  by_cases c : i < 0 ∨ 3 ≤ i
  · exact need_out n i w c
  · rcases (show i = 0 ∨ i = 1 ∨ i = 2 by omega) with rfl | rfl | rfl
    · exact need_0 n w T
    · exact need_1 n w T
    · exact need_2 n w T
/-- The first row that bears a name. -/
def findFrom (s : ByteArray) : Nat → Nat → Nat
  | 0, _ => 0
  | d + 1, i => if nm i = s then i else findFrom s d (i + 1)
def find (s : ByteArray) : Int := findFrom s 16 1
theorem names_ne : ∀ k, 1 ≤ k → k < 17 → (nm k).toList.isEmpty = false := by
  intro k h1 h2
  have : ∀ j : Fin 17, 1 ≤ j.val → (nm j.val).toList.isEmpty = false := by decide +kernel
  exact this ⟨k, h2⟩ h1
set_option maxHeartbeats 1000000 in
theorem find_any (s : ByteArray) (w : World) (T : Tab w) :
    Calls Tryd.prog 11 #[.string s] w fun e w' => e = .returned (.int .i64 (find s)) ∧ w = w' := by
  have hz := T.size
  go_enter Tryd.func11, Tryd.ntmps11
  go_wp2_with fail
  go_loop [3, 4] (fun _ i => ∃ k : Nat, k ≤ 17 ∧ i = .int .i64 k ∧ (findFrom s (17 - k) k = findFrom s 16 1 ∨ k = 0)) (fun _ i => 17 - (intOf i).toNat)
  case atStart => exact ⟨0, Nat.zero_le _, rfl, .inr rfl⟩
  case round =>
    obtain ⟨k, hk, rfl, hf⟩ := hrel
    have Hf := Lib.hid hf
    clear hf
    by_cases h0 : k = 0
    · subst h0
      have t0 : w.cell? ⟨0, 0, none⟩ = some (.string ⟨#[]⟩) := T.name 0 (by omega)
      have t1 : w.cell? ⟨0, 1, none⟩ = some (.int .i64 0) := T.arity 0 (by omega)
      have t2 : w.cell? ⟨0, 2, none⟩ = some (.int .i64 0) := T.need0 0 (by omega)
      have t3 : w.cell? ⟨0, 3, none⟩ = some (.int .i64 0) := T.need1 0 (by omega)
      have t4 : w.cell? ⟨0, 4, none⟩ = some (.int .i64 0) := T.need2 0 (by omega)
      clear T
      have hq : ∀ w, Sem.run Tryd.prog (Op.equalIn 9999 34 (Value.agg #[Value.int IntKind.i64 0, Value.int IntKind.i64 0, Value.int IntKind.i64 0]) (Value.agg #[Value.int IntKind.i64 0, Value.int IntKind.i64 0, Value.int IntKind.i64 0])) w = .ok true w := fun w => by kernel_rfl
      go_wp2_with fail
      go_round
      case rel => exact ⟨1, by omega, rfl, .inl rfl⟩
      case measure => simp [intOf]
    · have h1 : 1 ≤ k := by omega
      by_cases hlt : k < 17
      · have t0 := T.name k hlt
        have t1 := T.arity k hlt
        have t2 := T.need0 k hlt
        have t3 := T.need1 k hlt
        have t4 := T.need2 k hlt
        have n1 := names_ne k h1 hlt
        have n2 : ((nm k).toList = []) = False := by
          have := n1
          rw [List.isEmpty_eq_false_iff] at this
          simp [this]
        have step : findFrom s (17 - k) k = if nm k = s then k else findFrom s (17 - (k + 1)) (k + 1) := by
          rw [show 17 - k = (17 - (k + 1)) + 1 by omega]
          rfl
        have hf2 : findFrom s (17 - k) k = findFrom s 16 1 := by
          rcases Hf.out with h | h
          · exact h
          · exact absurd h h0
        clear Hf T
        have HS := Lib.hid (step.symm.trans hf2)
        clear step hf2 h0
        by_cases hs : nm k = s
        · subst hs
          have hfin := HS.out
          rw [if_pos rfl] at hfin
          have HF := Lib.hid hfin
          clear hfin HS
          go_wp2_with fail
          go_ret
          exact ⟨Kit.ret_int (by unfold find; rw [← HF.out]), rfl⟩
        · have hfin := HS.out
          rw [if_neg hs] at hfin
          have HF := Lib.hid hfin
          clear hfin HS
          have s1 : ((nm k).toList == s.toList) = false := by
            rw [beq_eq_false_iff_ne, ByteArray.toList_eq, ByteArray.toList_eq]
            exact fun h => hs (WideShapes.bytes_inj h)
          clear hs
          go_wp2_with fail
          go_round
          case rel => exact ⟨k + 1, by omega, by go_num, .inl HF.out⟩
          case measure => simp [intOf]; omega
      · have h17 : k = 17 := by omega
        subst h17
        go_wp2_with fail
        go_ret
        rcases Hf.out with h | h
        · exact ⟨Kit.ret_int (by unfold find; rw [← h]; rfl), rfl⟩
        · omega
end Go.Proofs.YtcmdjdhiocbmnaaDoor.Of
