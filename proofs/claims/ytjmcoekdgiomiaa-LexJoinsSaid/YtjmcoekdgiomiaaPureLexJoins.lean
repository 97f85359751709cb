/- Tokens joined: the law LexJoins' answer is true for every input that can come in. No condition. -/
import Derived.Test.YtjmcoekdgiomiaaFji
set_option linter.unusedVariables false
set_option linter.unusedSimpArgs false
namespace Go.Proofs.Ytjmcoekdgiomiaa.Pure
open Go.RowKit Go.Proofs.Ytjmcoekdgiomiaa.PLexJoins Go.Proofs.YtjmcoekdgiomiaaW.PrintWords Go.Proofs.YtjmcoekdgiomiaaW.PrintLast
open Go.Proofs.Ytjmcoekdgiomiaa.Fja Go.Proofs.Ytjmcoekdgiomiaa.Fjb Go.Proofs.Ytjmcoekdgiomiaa.Fjg Go.Proofs.Ytjmcoekdgiomiaa.Fji
theorem lexJoins_pure (L : List S34) (hL : ∀ t ∈ L, Fine t) (hb : L.length ≤ 1099511627776000) : middenlaw05_LexJoins.f (L.length + 100) L = some true := by
  unfold middenlaw05_LexJoins.f
  rw [join_f L hL hb _ (by omega), rjoin_f L hL hb _ (by omega), awake_f _ (by omega)]
  simp
end Go.Proofs.Ytjmcoekdgiomiaa.Pure
