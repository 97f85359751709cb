/- A pool of blocks: its calls that use no range, by contracts. No condition. -/
import Derived.Test.YtladhenjoipfpaaProg
import Derived.Test.YtladhenjoipfpaaOv
import Derived.RegionTactic
import Derived.ChangeAlike
import Derived.IntWalk
import Derived.Deep.QuietTactic
import Derived.BigQuiet
import Derived.Deep.LoopGhost
import Derived.Deep.DeepCutAuto
set_option linter.unusedVariables false
set_option linter.unusedSimpArgs false
namespace Go.Proofs.Ytladhenjoipfpaa.Pl
open Go.RowKit
open Ov
theorem infoI : (Try.prog.info? 3).map (fun i => (i.zero, i.size, i.bytes)) = some (some (.int .i64 0), 1, 8) := by kernel_rfl
/-- A pool: of each block whose it is, of each group how many. -/
structure Pool (w : World) (g a b : Nat) (fs ms : List Int) : Prop where
  obj : w.heap[g]? = some (.cells #[.slice (some ⟨a, 0, none⟩) fs.length fs.length, .slice (some ⟨b, 0, none⟩) fs.length fs.length] 77 (0, 0))
  one : w.heap[a]? = some (Rw.row .i64 3 fs)
  two : w.heap[b]? = some (Rw.row .i64 3 ms)
  ne : g ≠ a ∧ g ≠ b ∧ a ≠ b
  len : ms.length = fs.length
  small : 1 ≤ fs.length ∧ fs.length ≤ 4096
/-- Groups are stretches of their own. -/
def Wf (fs ms : List Int) : Prop := ∀ i, i < fs.length → fs.getD i 0 = -1 ∨ ∃ f m : Nat, fs.getD i 0 = f ∧ ms.getD f 0 = m ∧ 1 ≤ m ∧ f + m ≤ fs.length ∧ (f ≤ i ∧ i < f + m) ∧ ∀ j, f ≤ j → j < f + m → fs.getD j 0 = f
section
variable {w w' : World} {g a b : Nat} {fs ms : List Int}
theorem Pool.keep (h : Pool w g a b fs ms) {S : List Nat} (m : Kit.Mod S w w') (hg : g ∉ S) (ha : a ∉ S) (hb : b ∉ S) : Pool w' g a b fs ms := ⟨Kit.keep h.obj m hg, Kit.keep h.one m ha, Kit.keep h.two m hb, h.ne, h.len, h.small⟩
theorem Pool.keepB (h : Pool w g a b fs ms) (m : Below w.heap.size w w') : Pool w' g a b fs ms := ⟨Kit.keepB h.obj m, Kit.keepB h.one m, Kit.keepB h.two m, h.ne, h.len, h.small⟩
theorem Pool.heap (h : Pool w g a b fs ms) (e : w'.heap = w.heap) : Pool w' g a b fs ms := ⟨by rw [e]; exact h.obj, by rw [e]; exact h.one, by rw [e]; exact h.two, h.ne, h.len, h.small⟩
theorem Pool.put1 (h : Pool w g a b fs ms) (i : Nat) (v : Int) : Pool (w.setCell ⟨a, i, none⟩ (.int .i64 v)) g a b (fs.set i v) ms :=
  ⟨by rw [List.length_set]; exact Kit.set_far h.obj h.ne.1 _, Rw.set h.one i v, Kit.set_far h.two (fun e => h.ne.2.2 e.symm) _, h.ne, by rw [List.length_set]; exact h.len, by rw [List.length_set]; exact h.small⟩
theorem Pool.put2 (h : Pool w g a b fs ms) (i : Nat) (v : Int) : Pool (w.setCell ⟨b, i, none⟩ (.int .i64 v)) g a b fs (ms.set i v) :=
  ⟨Kit.set_far h.obj h.ne.2.1 _, Kit.set_far h.one h.ne.2.2 _, Rw.set h.two i v, h.ne, by rw [List.length_set]; exact h.len, h.small⟩
theorem blks (w : World) (o1 o2 o3 : Obj) : (((w.alloc o1).alloc o2).alloc o3).heap[w.heap.size]? = some o1 ∧ (((w.alloc o1).alloc o2).alloc o3).heap[w.heap.size + 1]? = some o2 ∧ (((w.alloc o1).alloc o2).alloc o3).heap[w.heap.size + 1 + 1]? = some o3 := by
  refine ⟨Kit.keep_alloc (Kit.keep_alloc (Kit.new_blk w o1) o2) o3, Kit.keep_alloc (Kit.new_blk2 w o1 o2) o3, ?_⟩
  have := Kit.new_blk2 (w.alloc o1) o2 o3
  simpa using this
theorem new_bad (w : World) (m : Int) (h : m < 1 ∨ 4096 < m) : Calls Try.prog 15 #[.int .i64 m] w fun e w' => e = .returned (.tuple #[.pointer none, .int .i64 7]) ∧ w' = w := by
  rcases h with h | h
  · have e1 : decide (m < 1) = true := decide_eq_true h
    go_enter Try.func15, Try.ntmps15
    go_wp2_with fail
    go_ret2
    exact ⟨rfl, rfl⟩
  · have e1 : decide (m < 1) = false := decide_eq_false (by omega)
    have e2 : decide (4096 < m) = true := decide_eq_true h
    go_enter Try.func15, Try.ntmps15
    go_wp2_with fail
    go_ret2
    exact ⟨rfl, rfl⟩
theorem freed_len (n j : Nat) (h : j < n) : (List.replicate j (-1 : Int) ++ List.replicate (n - j) 0).set j (-1) = List.replicate (j + 1) (-1) ++ List.replicate (n - (j + 1)) 0 := by
  have e : n - j = (n - (j + 1)) + 1 := by omega
  rw [e, List.replicate_succ, List.replicate_succ']
  simp
set_option maxHeartbeats 1000000 in
set_option maxRecDepth 100000 in
theorem new_it (w : World) (n : Nat) (h1 : 1 ≤ n) (h2 : n ≤ 4096) :
    Calls Try.prog 15 #[.int .i64 n] w fun e w' => ∃ g a b, e = .returned (.tuple #[.pointer (some ⟨g, 0, none⟩), .int .i64 0]) ∧ Pool w' g a b (List.replicate n (-1)) (List.replicate n 0) ∧ (w.heap.size ≤ g ∧ w.heap.size ≤ a ∧ w.heap.size ≤ b) ∧ Below w.heap.size w w' := by
  have hmk := fun w => Rw.made Try.prog w 43 3 .i64 8 Try.underlying43 infoI n (by omega) (by omega) (by omega)
  simp only [Int.toNat_natCast] at hmk
  have e1 : decide ((n : Int) < 1) = false := decide_eq_false (by omega)
  have e2 : decide (4096 < (n : Int)) = false := decide_eq_false (by omega)
  go_enter Try.func15, Try.ntmps15
  go_upto_region 3 with (fail)
  go_cut [4] (fun v w' => ∃ a b, v = .pointer (some ⟨w.heap.size + 1 + 1, 0, none⟩) ∧ Hid ((w.heap.size ≤ a ∧ w.heap.size ≤ b) ∧ Pool w' (w.heap.size + 1 + 1) a b (List.replicate n 0) (List.replicate n 0) ∧ Below w.heap.size w w'))
  case first =>
    go_region
    all_goals
      go_wp2_with fail
      go_meet
    · have K := blks w (Rw.row IntKind.i64 3 (List.replicate n 0)) (Rw.row IntKind.i64 3 (List.replicate n 0)) (.cells #[.slice (some ⟨w.heap.size, 0, none⟩) n n, .slice (some ⟨w.heap.size + 1, 0, none⟩) n n] 77)
      exact ⟨w.heap.size, w.heap.size + 1, rfl, ⟨by omega, by omega⟩, ⟨by rw [List.length_replicate]; exact K.2.2, K.1, K.2.1, by omega, by simp, by simp; omega⟩, Kit.drawB (Kit.allocB (Kit.allocB (Kit.allocB (Below.refl _ _) _) _) _) 1⟩
    · have K := blks w (Rw.row IntKind.i64 3 (List.replicate n 0)) (Rw.row IntKind.i64 3 (List.replicate n 0)) (.cells #[.slice (some ⟨w.heap.size + 1, 0, none⟩) n n, .slice (some ⟨w.heap.size, 0, none⟩) n n] 77)
      exact ⟨w.heap.size + 1, w.heap.size, rfl, ⟨by omega, by omega⟩, ⟨by rw [List.length_replicate]; exact K.2.2, K.2.1, K.1, by omega, by simp, by simp; omega⟩, Kit.drawB (Kit.allocB (Kit.allocB (Kit.allocB (Below.refl _ _) _) _) _) 1⟩
  case rest =>
    obtain ⟨a, b, rfl, H⟩ := hcut
    have c2 := Kit.cells2 H.out.2.1.obj
    rw [List.length_replicate] at c2
    clear hmk
    go_wp2_with fail
    go_loopg [23] n (fun k i wr => ∃ j : Nat, (j ≤ n ∧ k = n - j) ∧ i = .int .i64 j ∧ Hid (Pool wr (w.heap.size + 1 + 1) a b (List.replicate j (-1) ++ List.replicate (n - j) 0) (List.replicate n 0) ∧ Below w.heap.size w wr))
    case atStart => exact ⟨0, ⟨Nat.zero_le _, rfl⟩, rfl, by simpa using H.out.2.1, H.out.2.2⟩
    case round =>
      obtain ⟨j, ⟨hj, rfl⟩, rfl, HP⟩ := hrel
      have hlen : (List.replicate j (-1 : Int) ++ List.replicate (n - j) 0).length = n := by simp; omega
      have c2 := Kit.cells2 HP.out.1.obj
      rw [hlen] at c2
      have HL := Lib.hid hlen
      clear hlen
      by_cases hlt : j < n
      · have f1 := Rw.frozen HP.out.1.one j
        have c1 := Rw.cell HP.out.1.one j (by rw [HL.out]; exact hlt)
        have P2 := HP.out.1.put1 j (-1)
        rw [freed_len n j hlt] at P2
        have HP2 := Lib.hid P2
        have B2 := Lib.hid (HP.out.2.setCell (p := ⟨a, j, none⟩) H.out.1.1 (.int .i64 (-1)))
        clear P2
        generalize (List.replicate j (-1 : Int) ++ List.replicate (n - j) 0).getD j 0 = y at c1
        go_wp2_with fail
        go_roundg (n - (j + 1))
        case measure => omega
        case rel => exact ⟨j + 1, ⟨by omega, rfl⟩, by simp, HP2.out, B2.out⟩
      · obtain rfl : j = n := by omega
        have PE := HP.out.1
        rw [Nat.sub_self, List.replicate_zero, List.append_nil] at PE
        have HPE := Lib.hid PE
        clear PE
        go_wp2_with fail
        go_ret2
        exact ⟨_, a, b, rfl, HPE.out, ⟨by omega, H.out.1.1, H.out.1.2⟩, HP.out.2⟩
/-- How many free blocks stand in a row. -/
theorem run_it (P : Pool w g a b fs ms) (p k : Nat) (h1 : p + k ≤ fs.length) (h2 : ∀ i, p ≤ i → i < p + k → fs.getD i 0 < 0) (h3 : p + k < fs.length → 0 ≤ fs.getD (p + k) 0) :
    Calls Try.prog 49 #[.pointer (some ⟨g, 0, none⟩), .int .i64 p] w fun e w' => e = .returned (.int .i64 k) ∧ w' = w := by
  have c2 := Kit.cells2 P.obj
  have hs := P.small
  have HP := Lib.hid P
  have H2 := Lib.hid h2
  have H3 := Lib.hid h3
  clear P h2 h3
  go_enter Try.func49, Try.ntmps49
  go_wp2_with fail
  go_loop [5] (fun i => ∃ j : Nat, (p ≤ j ∧ j ≤ p + k) ∧ i = .int .i64 j) (fun i => fs.length - (intOf i).toNat)
  case atStart => exact ⟨p, by omega, rfl⟩
  case round =>
    obtain ⟨j, hj, rfl⟩ := hrel
    by_cases hlt : j < p + k
    · have hn : j < fs.length := by omega
      have c1 := Rw.cell HP.out.one j hn
      have hneg := H2.out j hj.1 hlt
      generalize fs.getD j 0 = x at c1 hneg
      have d1 : decide (x < 0) = true := decide_eq_true hneg
      go_wp2_with fail
      go_round
      case rel => exact ⟨j + 1, by omega, by simp⟩
      case measure => simp [intOf]; omega
    · obtain rfl : j = p + k := by omega
      by_cases hn : p + k < fs.length
      · have c1 := Rw.cell HP.out.one (p + k) hn
        have hpos := H3.out hn
        generalize fs.getD (p + k) 0 = x at c1 hpos
        have d1 : decide (x < 0) = false := decide_eq_false (by omega)
        go_wp2_with fail
        go_ret
        exact ⟨Kit.ret_int (by omega), rfl⟩
      · go_wp2_with fail
        go_ret
        exact ⟨Kit.ret_int (by omega), rfl⟩
theorem free_bad (P : Pool w g a b fs ms) (n : Int) (h : n < 0 ∨ (fs.length : Int) ≤ n ∨ (0 ≤ n ∧ n < fs.length ∧ fs.getD n.toNat 0 ≠ n)) : Calls Try.prog 33 #[.pointer (some ⟨g, 0, none⟩), .int .i64 n] w fun e w' => e = .returned (.int .i64 8) ∧ w' = w := by
  have c2 := Kit.cells2 P.obj
  have hs := P.small
  have HP := Lib.hid P
  clear P
  rcases h with h0 | h0 | ⟨h0, h1, h2⟩
  · have d0 : decide (n < 0) = true := decide_eq_true h0
    go_enter Try.func33, Try.ntmps33
    go_wp2_with fail
    go_ret
    exact ⟨rfl, rfl⟩
  · have d0 : decide (n < 0) = false := decide_eq_false (by omega)
    have d1 : decide ((fs.length : Int) ≤ n) = true := decide_eq_true h0
    go_enter Try.func33, Try.ntmps33
    go_wp2_with fail
    go_ret
    exact ⟨rfl, rfl⟩
  · obtain ⟨k, rfl⟩ := Int.eq_ofNat_of_zero_le h0
    rw [Int.toNat_natCast] at h2
    have c1 := Rw.cell HP.out.one k (by omega)
    have d0 : decide ((k : Int) < 0) = false := decide_eq_false (by omega)
    have d1 : decide ((fs.length : Int) ≤ k) = false := decide_eq_false (by omega)
    have d1' : decide (fs.length ≤ k) = false := decide_eq_false (by omega)
    generalize fs.getD k 0 = x at c1 h2
    have d2 : (x != (k : Int)) = true := by rw [bne_iff_ne]; exact h2
    clear h2
    go_enter Try.func33, Try.ntmps33
    go_wp2_with fail
    go_ret
    exact ⟨rfl, rfl⟩
set_option maxHeartbeats 1000000 in
set_option maxRecDepth 100000 in
theorem free_it (P : Pool w g a b fs ms) (f m : Nat) (hf : fs.getD f 0 = f) (hm : ms.getD f 0 = m) (hl : f + m ≤ fs.length) (hm0 : 1 ≤ m) : Calls Try.prog 33 #[.pointer (some ⟨g, 0, none⟩), .int .i64 f] w fun e w' => e = .returned (.int .i64 0) ∧ Pool w' g a b (fill fs f m (-1)) (ms.set f 0) ∧ Kit.Mod [a, b] w w' := by
  have c2 := Kit.cells2 P.obj
  have c1 := Rw.cell P.one f (by omega)
  rw [hf] at c1
  have hs := P.small
  have HP := Lib.hid P
  have HM := Lib.hid hm
  have hl2 := P.len
  have d0 : decide ((f : Int) < 0) = false := decide_eq_false (by omega)
  have d1 : decide ((fs.length : Int) ≤ f) = false := decide_eq_false (by omega)
  have d1' : decide (fs.length ≤ f) = false := decide_eq_false (by omega)
  have d2 : ((f : Int) != (f : Int)) = false := by simp
  clear P hf hm
  go_enter Try.func33, Try.ntmps33
  go_wp2_with fail
  clear c2 c1
  go_loopg [5] m (fun n i wr => ∃ k : Nat, (k ≤ m ∧ n = m - k) ∧ i = .int .i64 ((f + k : Nat) : Int) ∧ Hid (Pool wr g a b (fill fs f k (-1)) ms ∧ Kit.Mod [a, b] w wr))
  case atStart => exact ⟨0, ⟨Nat.zero_le _, rfl⟩, rfl, by rw [fill_zero]; exact HP.out, Kit.Mod.refl _ _⟩
  case round =>
    obtain ⟨k, ⟨hk, rfl⟩, rfl, H⟩ := hrel
    have hfl := fill_length fs f k (-1) (by omega)
    have c2 := Kit.cells2 H.out.1.obj
    rw [hfl] at c2
    have c3 := Rw.cell H.out.1.two f (by rw [hl2]; omega)
    rw [HM.out] at c3
    have HFL := Lib.hid hfl
    clear hfl
    by_cases hlt : k < m
    · have c1 := Rw.cell H.out.1.one (f + k) (by rw [HFL.out]; omega)
      have f1 := Rw.frozen H.out.1.one (f + k)
      have P1 := H.out.1.put1 (f + k) (-1)
      rw [fill_succ fs f k (-1) (by omega)] at P1
      have HP1 := Lib.hid P1
      have M1 := Lib.hid (H.out.2.setCell (p := ⟨a, f + k, none⟩) (.inl (by simp)) (.int .i64 (-1)))
      clear P1
      generalize (fill fs f k (-1)).getD (f + k) 0 = y at c1
      go_wp2_with fail
      go_roundg (m - (k + 1))
      case measure => omega
      case rel => exact ⟨k + 1, ⟨by omega, rfl⟩, by simp; omega, HP1.out, M1.out⟩
    · obtain rfl : k = m := by omega
      have f1 := Rw.frozen H.out.1.two f
      have P1 := Lib.hid (H.out.1.put2 f 0)
      have M1 := Lib.hid (H.out.2.setCell (p := ⟨b, f, none⟩) (.inl (by simp)) (.int .i64 0))
      go_wp2_with fail
      go_ret
      exact ⟨rfl, P1.out, M1.out⟩
end
end Go.Proofs.Ytladhenjoipfpaa.Pl
