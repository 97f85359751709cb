/- What a space tells: Each. No condition. -/
import Derived.Test.YtladhenjoipfpaaRa
import Derived.Test.YtladhenjoipfpaaEp
import Derived.RegionTactic
import Derived.BigRegion
set_option linter.unusedVariables false
set_option linter.unusedSimpArgs false
namespace Go.Proofs.Ytladhenjoipfpaa.Es
open Go.RowKit
open Pl Rn Ov Lf Wl Gp Ct Sn Gq Tf Mt Rr Kp Sc Nn Tk La Rp Rq Mb S2 Fr Xr Rf Ry Rz Ra
open Ek (Rds Tr)
section
variable {w : World} {s g ga m B : Nat} {K : Nat → Prop} {vg va vm : Value} {σ : Sq}
theorem rds_cut {w : World} {A : Option Addr} {n cap : Nat} {xs : List Value} (h : Rds w (.slice A n cap) n xs) : Rds w (.slice A n n) n xs := by
  refine ⟨h.1, ?_⟩
  rcases h.2 with ⟨rfl, _⟩ | ⟨g, cap', e, h1, h2, h3, h4⟩
  · exact .inl ⟨rfl, _, _, rfl⟩
  · cases e
    exact .inr ⟨g, n, rfl, Nat.le_refl _, by omega, h3, h4⟩
theorem rds_cap {w : World} {A : Option Addr} {n cap : Nat} {xs : List Value} (h : w.ownsRow B 3 1 (.slice A n cap) n xs) : n ≤ cap ∧ cap ≤ maxLen ∧ (A = none ∨ ∃ q, A = some ⟨q, 0, none⟩) := by
  rcases h.2 with ⟨e, rfl⟩ | ⟨q, cap', cur, e, hb, hg, h1, h2, _⟩
  · cases e; exact ⟨Nat.le_refl _, by decide, .inl rfl⟩
  · cases e; exact ⟨h1, h2, .inr ⟨_, rfl⟩⟩
set_option maxHeartbeats 4000000 in
set_option maxRecDepth 100000 in
theorem each_it (S : Sv w s g ga m B K vg va vm σ) (hl : σ.lays.length ≤ 1000) : Calls Try.prog 19 #[.pointer (some ⟨s, 0, none⟩)] w fun e w' =>
    ∃ va' vb', e = .returned (.func (.func 32) #[] #[.pointer (some ⟨w.heap.size, 0, none⟩), .pointer (some ⟨w.heap.size + 1, 0, none⟩)]) ∧ Below w.heap.size w w' ∧ Tr w' 0 w.heap.size (w.heap.size + 1) va' vb' σ.lays := by
  obtain ⟨A, ca, ha⟩ := (Rds.own S.oa).shape
  obtain ⟨A', cb, hb⟩ := (Rds.own S.om).shape
  subst ha hb
  obtain ⟨a1, a2, a3⟩ := rds_cap S.oa
  obtain ⟨b1, b2, b3⟩ := rds_cap S.om
  have R1 := rds_cut (Rds.own S.oa)
  have R2 := rds_cut (Rds.own S.om)
  rw [← fst_ints] at R1
  rw [← snd_ints] at R2
  have HR := Lib.hid (And.intro R1 R2)
  obtain ⟨⟨_, _, _, _, c4⟩, c5, _⟩ := S.cells
  have sl := S.low s S.ks.1
  unfold maxLen at a2 b2
  obtain ⟨n, hn⟩ : ∃ n, n = σ.lays.length := ⟨_, rfl⟩
  rw [← hn] at c4 c5 a1 b1 hl HR
  have HN := Lib.hid hn
  clear S R1 R2 hn
  go_enter Try.func19, Try.ntmps19
  go_wp2_with fail
  go_region
  go_wp2_with fail
  go_ret
  have bl := Kit.drawB (Kit.allocB (Kit.allocB (Below.refl w.heap.size w) (.cells #[.slice A n n] 43)) (.cells #[.slice A' n n] 43)) 1
  refine ⟨.slice A n n, .slice A' n n, rfl, bl, ?_⟩
  have e := HN.out
  refine ⟨Kit.keep_alloc (Kit.new_blk w (.cells #[.slice A n n] 43)) (.cells #[.slice A' n n] 43), Kit.new_blk2 w (.cells #[.slice A n n] 43) (.cells #[.slice A' n n] 43), ?_, ?_⟩
  · rw [← e]; exact HR.out.1.keep (fun k hk => bl.block k hk) bl.size
  · rw [← e]; exact HR.out.2.keep (fun k hk => bl.block k hk) bl.size
end
end Go.Proofs.Ytladhenjoipfpaa.Es
