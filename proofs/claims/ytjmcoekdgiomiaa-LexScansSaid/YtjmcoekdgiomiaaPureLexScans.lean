/- Every text's tokens, or the first one that is wrong, and where: the law LexScans' answer is true for every input. No condition. -/
import Derived.Test.YtjmcoekdgiomiaaFsc
import Derived.Test.YtjmcoekdgiomiaaFsf
set_option linter.unusedVariables false
set_option linter.unusedSimpArgs false
namespace Go.Proofs.Ytjmcoekdgiomiaa.Pure
open Go.RowKit Go.Proofs.Ytjmcoekdgiomiaa.PLexScans Go.Proofs.YtjmcoekdgiomiaaW.PrintWords Go.Proofs.YtjmcoekdgiomiaaW.PrintLast
open Go.Proofs.Ytjmcoekdgiomiaa.Fsa Go.Proofs.Ytjmcoekdgiomiaa.Fsb Go.Proofs.Ytjmcoekdgiomiaa.Fsc Go.Proofs.Ytjmcoekdgiomiaa.Fse Go.Proofs.Ytjmcoekdgiomiaa.Fsf
theorem scan_len : ∀ (f : Nat) (l : List UInt8) (at_ : Nat) (acc : List S34), (scanL f l at_ acc).1.length ≤ acc.length + l.length := by
  intro f
  induction f with
  | zero => intro l at_ acc; simp [scanL]
  | succ f ih =>
    intro l at_ acc
    rw [scanL]
    by_cases h0 : l.length = 0
    · rw [if_pos h0]; simp
    · rw [if_neg h0]
      have hu := tok_used l
      generalize tokL l = T at hu ⊢
      by_cases he : T.err = 0
      · rw [if_pos he]
        by_cases h32 : T.text.length > 32
        · rw [if_pos h32]; simp
        · rw [if_neg h32]
          have := ih ((l.drop T.used.length).drop (skipL false (l.drop T.used.length))) (at_ + T.used.length + skipL false (l.drop T.used.length)) (acc ++ [⟨T.kind, B T.text, T.n, (at_ : Int)⟩])
          refine Nat.le_trans this ?_
          obtain ⟨h1, h2⟩ := hu he
          rw [List.length_append, List.length_drop, List.length_drop]
          simp only [List.length_cons, List.length_nil]
          generalize skipL false (l.drop T.used.length) = q
          generalize T.used.length = u at *
          omega
      · rw [if_neg he]; simp
theorem all_len (l : List UInt8) : (scanAll l).1.length ≤ 16384 := by
  unfold scanAll
  split
  · simp
  · have := scan_len (l.length + 1) (l.drop (skipL false l)) (skipL false l) []
    refine Nat.le_trans this ?_
    simp
    omega
theorem LexScans : middenlaw05_LexScans.Pure := by
  intro a0 h0
  refine ⟨6 * a0.size + 20000, ?_⟩
  have hl := all_len a0.data.toList
  unfold middenlaw05_LexScans.f
  rw [scan_f a0 _ h0 (by omega), rscan_f a0 _ h0 (by omega), awake_f _ (by omega)]
  simp only [Option.bind_some]
  rw [if_pos trivial, same_f _ _ _ _ (by omega) (by omega), sameL_refl]
  simp
end Go.Proofs.Ytjmcoekdgiomiaa.Pure
