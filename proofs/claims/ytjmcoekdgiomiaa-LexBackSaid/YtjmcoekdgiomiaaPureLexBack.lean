/- Tokens that are written are read as they were: the law LexBack's answer is true for every input that can come in. No condition. -/
import Derived.Test.YtjmcoekdgiomiaaFtj
set_option linter.unusedVariables false
set_option linter.unusedSimpArgs false
namespace Go.Proofs.Ytjmcoekdgiomiaa.Pure
open Go.RowKit Go.Proofs.Ytjmcoekdgiomiaa.PLexBack Go.Proofs.YtjmcoekdgiomiaaW.PrintWords Go.Proofs.YtjmcoekdgiomiaaW.PrintLast
open Go.Proofs.Ytjmcoekdgiomiaa.Fta Go.Proofs.Ytjmcoekdgiomiaa.Ftb Go.Proofs.Ytjmcoekdgiomiaa.Ftc Go.Proofs.Ytjmcoekdgiomiaa.Ftg Go.Proofs.Ytjmcoekdgiomiaa.Fth Go.Proofs.Ytjmcoekdgiomiaa.Ftj
theorem lexBack_pure (L : List S34) (hL : ∀ t ∈ L, -9223372036854775808 ≤ t.f2 ∧ t.f2 ≤ 9223372036854775807) (hb : L.length ≤ 3518437208780) : middenlaw05_LexBack.f (L.length + 100000) L = some true := by
  unfold middenlaw05_LexBack.f
  rw [join_f L (fun t ht => by have := hL t ht; show t.f2.natAbs ≤ _; omega) (by omega) _ (by omega), awake_f _ (by omega)]
  simp only [Option.bind_some]
  rw [if_pos trivial]
  show middenlaw05_LexBack.j0 (L.length + 99999 + 1) L (B (joinL L []).1) ((joinL L []).2 != 0) = some true
  simp only [middenlaw05_LexBack.j0]
  by_cases h0 : (joinL L []).2 = 0
  · have hd : ((joinL L []).2 != 0) = false := by simpa using h0
    obtain ⟨e1, e2, e3⟩ := joinL_ok L [] h0
    have hlen := joinL_len L [] h0
    rw [hd, if_neg Bool.false_ne_true]
    rw [e1, List.nil_append] at e2 ⊢
    obtain ⟨R, hR, hS⟩ := scan_of_flat (L.map fun t => (([] : List UInt8), t)) (fun x hx => by
      rw [List.mem_map] at hx
      obtain ⟨t, ht, rfl⟩ := hx
      exact ⟨gap_nil, (hL t ht).1, (hL t ht).2, e3 t ht⟩) e2
    rw [scan_f _ _ (by rw [B_size]; omega) (by rw [B_size]; omega), B_list, hR]
    simp only [Option.bind_some]
    rw [if_pos trivial, if_pos trivial, named_f L hb _ (by omega)]
    simp only [Option.bind_some]
    rw [List.map_map] at hS
    have hS' : sameL false R (L.map named1) = true := hS
    have hl := sameL_len hS'
    rw [List.length_map] at hl
    rw [same_f _ R (L.map named1) false (by omega) (by omega), hS']
    rfl
  · have hd : ((joinL L []).2 != 0) = true := by simpa using h0
    rw [hd, if_pos rfl, awake_f _ (by omega), joinL_bad L [] h0]
    simp only [Option.bind_some]
    rw [if_pos trivial, toList_eq, B_list]
    rfl
end Go.Proofs.Ytjmcoekdgiomiaa.Pure
