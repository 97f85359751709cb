/- The tokens of a text that is scanned come first, whatever stands behind it in another line: the law LexFirst's answer is true for every input. No condition. -/
import Derived.Test.YtjmcoekdgiomiaaFfd
set_option linter.unusedVariables false
set_option linter.unusedSimpArgs false
namespace Go.Proofs.Ytjmcoekdgiomiaa.Pure
open Go.RowKit Go.Proofs.Ytjmcoekdgiomiaa.PLexFirst Go.Proofs.YtjmcoekdgiomiaaW.PrintWords Go.Proofs.YtjmcoekdgiomiaaW.PrintLast
open Go.Proofs.Ytjmcoekdgiomiaa.Ffa Go.Proofs.Ytjmcoekdgiomiaa.Ffb Go.Proofs.Ytjmcoekdgiomiaa.Ffc Go.Proofs.Ytjmcoekdgiomiaa.Ffd
theorem scan_len : ∀ (f : Nat) (l : List UInt8) (at_ : Nat) (acc : List S34), (scanL f l at_ acc).1.length ≤ acc.length + l.length := by
  intro f
  induction f with
  | zero => intro l at_ acc; simp [scanL]
  | succ f ih =>
    intro l at_ acc
    cases l with
    | nil => simp [scanL]
    | cons c l =>
      rw [scanL_cons]
      have hu := tok_used (c :: l)
      generalize tokL (c :: l) = T at hu ⊢
      by_cases he : T.err = 0
      · rw [if_pos he]
        by_cases h32 : T.text.length > 32
        · rw [if_pos h32]; simp
        · rw [if_neg h32]
          unfold scanS
          have := ih (((c :: l).drop T.used.length).drop (skipL false ((c :: l).drop T.used.length))) (at_ + T.used.length + skipL false ((c :: l).drop T.used.length)) (acc ++ [⟨T.kind, B T.text, T.n, (at_ : Int)⟩])
          refine Nat.le_trans this ?_
          obtain ⟨h1, h2⟩ := hu he
          rw [List.length_append, List.length_drop, List.length_drop, List.length_cons]
          simp only [List.length_cons, List.length_nil]
          generalize skipL false ((c :: l).drop T.used.length) = q
          generalize T.used.length = u at *
          omega
      · rw [if_neg he]; simp
theorem all_len (l : List UInt8) : (scanAll l).1.length ≤ l.length := by
  unfold scanAll
  split
  · simp
  · have := scan_len (l.length + 1) (l.drop (skipL false l)) (skipL false l) []
    refine Nat.le_trans this ?_
    simp
theorem all_end (l : List UInt8) (h : (scanAll l).2.2 = 0) : l.length ≤ 16384 := by
  unfold scanAll at h
  split at h
  · exact absurd h (by show ¬ (3 : Int) = 0; decide)
  · omega
theorem LexFirst : middenlaw05_LexFirst.Pure := by
  intro a0 a1 h0 h1
  refine ⟨2 * (a0.size + a1.size) + 100, ?_⟩
  have hL : a0.data.toList.length = a0.size := by simp
  have hM : a1.data.toList.length = a1.size := by simp
  have s0 := scan_f a0 (2 * (a0.size + a1.size) + 100) h0 (by omega)
  have aw := awake_f (2 * (a0.size + a1.size) + 100) (by omega)
  have aw2 := awake_f (2 * (a0.size + a1.size) + 99) (by omega)
  unfold middenlaw05_LexFirst.f
  rw [s0, aw]
  simp only [Option.bind_some, if_true]
  have hw : wrap64 ((a0.size : Int) + (a1.size : Int)) = ((a0.size + a1.size : Nat) : Int) := by unfold wrap64; omega
  rw [hw]
  have awake_way : ∀ x, middenlaw05_LexFirst.j0 (2 * (a0.size + a1.size) + 99 + 1) a0 a1 x true = some true := fun x => by
    simp only [middenlaw05_LexFirst.j0]
    rw [if_pos trivial, aw2]
    rfl
  by_cases he : (scanAll a0.data.toList).2.2 = 0
  · rw [if_pos he]
    by_cases hs : a0.size + a1.size < 16384
    · rw [decide_eq_false (show ¬ ((a0.size + a1.size : Nat) : Int) ≥ 16384 by omega)]
      show middenlaw05_LexFirst.j0 (2 * (a0.size + a1.size) + 99 + 1) _ _ _ _ = _
      simp only [middenlaw05_LexFirst.j0]
      have hz1 : (a0 ++ (⟨#[10]⟩ : ByteArray)).size = a0.size + 1 := by rw [ByteArray.size_append]; rfl
      have hz2 : ((a0 ++ (⟨#[10]⟩ : ByteArray)) ++ a1).size = a0.size + 1 + a1.size := by rw [ByteArray.size_append, hz1]
      have hl2 : ((a0 ++ (⟨#[10]⟩ : ByteArray)) ++ a1).data.toList = a0.data.toList ++ 10 :: a1.data.toList := by simp [ByteArray.data_append]
      rw [if_neg Bool.false_ne_true, if_pos (by omega), if_pos (by rw [hz1]; omega)]
      rw [scan_f _ (2 * (a0.size + a1.size) + 99) (by rw [hz2]; omega) (by rw [hz2]; omega), hl2]
      simp only [Option.bind_some]
      have hf := all_first a0.data.toList a1.data.toList he (by omega)
      have hlen := all_len a0.data.toList
      rw [hL] at hlen
      by_cases he2 : (scanAll (a0.data.toList ++ 10 :: a1.data.toList)).2.2 = 0
      · obtain ⟨more, e⟩ := hf.1 he2
        rw [if_pos he2, e]
        have hll : ((scanAll a0.data.toList).1 ++ more).length = (scanAll a0.data.toList).1.length + more.length := by simp
        rw [hll, if_pos (by omega), if_pos (by omega), if_pos (by omega), Int.toNat_natCast, List.take_left]
        rw [same_f _ _ _ _ (by omega) (by omega), sameL_refl]
        rfl
      · obtain ⟨e1, e2⟩ := hf.2 he2
        rw [hL] at e2
        rw [if_neg he2, if_pos e2, e1]
        rfl
    · rw [decide_eq_true (show ((a0.size + a1.size : Nat) : Int) ≥ 16384 by omega)]
      exact awake_way _
  · rw [if_neg he]
    exact awake_way _
end Go.Proofs.Ytjmcoekdgiomiaa.Pure
