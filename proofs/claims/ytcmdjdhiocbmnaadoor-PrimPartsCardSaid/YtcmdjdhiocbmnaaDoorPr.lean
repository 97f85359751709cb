/- Numbers of layer 8: what the primitives and the document's answers come to; plain, no program in sight but for the printed functions. -/
import Derived.Test.YtcmdjdhiocbmnaaDoorPPrimNamesx
import Derived.Test.YtcmdjdhiocbmnaaDoorPPrimDoesx
import Derived.Test.YtcmdjdhiocbmnaaDoorPPrimNeedsx
import Derived.Test.YtcmdjdhiocbmnaaDoorOf
namespace Go.Proofs.YtcmdjdhiocbmnaaDoor.Pr
open Go.RowKit Go.Proofs.YtcmdjdhiocbmnaaDoorW.PrintWords Go.Proofs.YtcmdjdhiocbmnaaDoorW.PrintLast Go.Proofs.YtcmdjdhiocbmnaaDoorW.PrintMore
open Of (nm ar nd nameOf arityOf needOf inTab find findFrom str)
theorem u64_wrap (n : Int) : IntKind.u64.wrap n = n % 18446744073709551616 := by
  simp [IntKind.wrap, IntKind.signed, IntKind.bits]
theorem wrap_wrap (n : Int) : wrap64 (n % 18446744073709551616) = wrap64 n := by unfold wrap64; omega
theorem wrap_in (n : Int) (h0 : -9223372036854775808 ≤ n) (h1 : n ≤ 9223372036854775807) : wrap64 n = n := by unfold wrap64; omega

theorem name_tab : ∀ j : Fin 17, 1 ≤ j.val → PPrimNames.middenref08_Name.f (j.val : Int) = some (nm j.val) := by decide +kernel
theorem ref_name (n : Int) : PPrimNames.middenref08_Name.f n = some (nameOf n) := by
  unfold nameOf
  by_cases c : inTab n
  · rw [if_pos c]
    unfold inTab at c
    obtain ⟨k, rfl⟩ := Int.eq_ofNat_of_zero_le (show 0 ≤ n by omega)
    exact name_tab ⟨k, by omega⟩ (by show 1 ≤ k; omega)
  · rw [if_neg c]
    unfold inTab at c
    have h : ∀ x : Int, 1 ≤ x → x ≤ 16 → ¬ n = x := fun x h1 h2 e => c (by omega)
    unfold PPrimNames.middenref08_Name.f
    rw [if_neg (h 1 (by decide) (by decide)), if_neg (h 2 (by decide) (by decide)), if_neg (h 3 (by decide) (by decide)), if_neg (h 4 (by decide) (by decide)), if_neg (h 5 (by decide) (by decide)), if_neg (h 6 (by decide) (by decide)), if_neg (h 7 (by decide) (by decide)), if_neg (h 8 (by decide) (by decide)), if_neg (h 9 (by decide) (by decide)), if_neg (h 10 (by decide) (by decide)), if_neg (h 11 (by decide) (by decide)), if_neg (h 12 (by decide) (by decide)), if_neg (h 13 (by decide) (by decide)), if_neg (h 14 (by decide) (by decide)), if_neg (h 15 (by decide) (by decide)), if_neg (h 16 (by decide) (by decide))]
    rfl
theorem ref_find_loop (s : ByteArray) (d : Nat) : ∀ (k i : Nat), i + d = 17 → 1 ≤ i → d < k → PPrimNames.middenref08_Find.l0 k s i = some ((findFrom s d i : Nat) : Int) := by
  induction d with
  | zero =>
    intro k i h h1 hk
    obtain ⟨k, rfl⟩ : ∃ m, k = m + 1 := ⟨k - 1, by omega⟩
    simp only [PPrimNames.middenref08_Find.l0]
    rw [if_neg (by omega)]
    rfl
  | succ d ih =>
    intro k i h h1 hk
    obtain ⟨k, rfl⟩ : ∃ m, k = m + 1 := ⟨k - 1, by omega⟩
    simp only [PPrimNames.middenref08_Find.l0]
    rw [if_pos (by omega), ref_name]
    simp only [Option.bind_some]
    have e : nameOf (i : Int) = nm i := by
      unfold nameOf
      rw [if_pos (by unfold inTab; omega)]
      rfl
    rw [e]
    unfold findFrom
    by_cases c : nm i = s
    · rw [if_pos (by rw [c]), if_pos c]
    · rw [if_neg (by
        rw [ByteArray.toList_eq, ByteArray.toList_eq]
        exact fun h => c (WideShapes.bytes_inj h)), if_neg c]
      rw [wrap_in _ (by omega) (by omega)]
      exact ih k (i + 1) (by omega) (by omega) (by omega)
theorem ref_find (s : ByteArray) : PPrimNames.middenref08_Find.f 20 s = some (find s) := ref_find_loop s 16 20 1 (by omega) (by omega) (by omega)

theorem arity_tab : ∀ j : Fin 17, 1 ≤ j.val → PPrimNeeds.middenref08_Arity.f 5 (j.val : Int) = some (ar j.val) := by decide +kernel
theorem ref_arity (n : Int) : PPrimNeeds.middenref08_Arity.f 5 n = some (arityOf n) := by
  unfold arityOf
  by_cases c : inTab n
  · rw [if_pos c]
    unfold inTab at c
    obtain ⟨k, rfl⟩ := Int.eq_ofNat_of_zero_le (show 0 ≤ n by omega)
    exact arity_tab ⟨k, by omega⟩ (by show 1 ≤ k; omega)
  · rw [if_neg c]
    unfold inTab at c
    unfold PPrimNeeds.middenref08_Arity.f
    by_cases d : n < 1
    · rw [if_pos d]; rfl
    · rw [if_neg d, show decide (n > 16) = true from decide_eq_true (by omega)]; rfl
theorem need_tab0 : ∀ j : Fin 17, 1 ≤ j.val → PPrimNeeds.middenref08_Need.f 9 (j.val : Int) 0 = some (nd j.val 0) := by decide +kernel
theorem need_tab1 : ∀ j : Fin 17, 1 ≤ j.val → PPrimNeeds.middenref08_Need.f 9 (j.val : Int) 1 = some (nd j.val 1) := by decide +kernel
theorem need_tab2 : ∀ j : Fin 17, nd j.val 2 = 0 := by decide +kernel
theorem ref_need (n i : Int) : PPrimNeeds.middenref08_Need.f 9 n i = some (needOf n i) := by
  unfold needOf
  by_cases c : inTab n
  · rw [if_pos c]
    unfold inTab at c
    obtain ⟨k, rfl⟩ := Int.eq_ofNat_of_zero_le (show 0 ≤ n by omega)
    by_cases i0 : i = 0
    · subst i0
      exact need_tab0 ⟨k, by omega⟩ (by show 1 ≤ k; omega)
    · by_cases i1 : i = 1
      · subst i1
        exact need_tab1 ⟨k, by omega⟩ (by show 1 ≤ k; omega)
      · have e : (if 0 ≤ i ∧ i < 3 then nd ((k : Int)).toNat i.toNat else 0) = 0 := by
          by_cases h : 0 ≤ i ∧ i < 3
          · rw [if_pos h, show i.toNat = 2 by omega, Int.toNat_natCast]
            exact need_tab2 ⟨k, by omega⟩
          · rw [if_neg h]
        rw [e]
        have ne1 : (i == 1) = false := by simp [i1]
        unfold PPrimNeeds.middenref08_Need.f
        have j4 : ∀ m x, PPrimNeeds.middenref08_Need.j4 (m + 1) x i false = some 0 := fun m x => by simp [PPrimNeeds.middenref08_Need.j4, i1]
        have j3 : ∀ m x, PPrimNeeds.middenref08_Need.j3 (m + 2) x i false = some 0 := fun m x => by simp [PPrimNeeds.middenref08_Need.j3, i0, j4]
        have j2 : ∀ m x, PPrimNeeds.middenref08_Need.j2 (m + 3) x i false = some 0 := fun m x => by simp [PPrimNeeds.middenref08_Need.j2, i0, j3]
        have j1 : ∀ m x, PPrimNeeds.middenref08_Need.j1 (m + 4) x i false = some 0 := fun m x => by simp [PPrimNeeds.middenref08_Need.j1, i0, j2]
        have j0 : ∀ m x, PPrimNeeds.middenref08_Need.j0 (m + 5) x i false = some 0 := fun m x => by simp [PPrimNeeds.middenref08_Need.j0, i0, j1]
        rw [if_neg i0, ne1]
        by_cases a : (k : Int) ≥ 1
        · rw [if_pos a]
          by_cases b : (k : Int) ≤ 7
          · rw [if_pos b]; exact j0 4 k
          · rw [if_neg b]; exact j0 4 k
        · rw [if_neg a]; exact j0 4 k
  · rw [if_neg c]
    unfold inTab at c
    have h : ∀ x : Int, 1 ≤ x → x ≤ 16 → ¬ n = x := fun x h1 h2 e => c (by omega)
    have hb : ∀ x : Int, 1 ≤ x → x ≤ 16 → (n == x) = false := fun x h1 h2 => beq_eq_false_iff_ne.2 (h x h1 h2)
    have j4 : ∀ m, PPrimNeeds.middenref08_Need.j4 (m + 1) n i false = some 0 := fun m => by
      simp only [PPrimNeeds.middenref08_Need.j4]
      rw [if_neg (by decide), if_neg (h 14 (by decide) (by decide)), if_neg (h 15 (by decide) (by decide))]
      by_cases d : i = 1
      · rw [if_pos d]
      · rw [if_neg d]
    have j3 : ∀ m, PPrimNeeds.middenref08_Need.j3 (m + 2) n i false = some 0 := fun m => by
      simp only [PPrimNeeds.middenref08_Need.j3]
      rw [if_neg (by decide), if_neg (h 14 (by decide) (by decide)), if_neg (h 15 (by decide) (by decide)), hb 16 (by decide) (by decide), j4]
      simp
    have j2 : ∀ m, PPrimNeeds.middenref08_Need.j2 (m + 3) n i false = some 0 := fun m => by
      simp only [PPrimNeeds.middenref08_Need.j2]
      rw [if_neg (by decide), if_neg (h 11 (by decide) (by decide)), hb 12 (by decide) (by decide), j3]
      simp
    have j1 : ∀ m, PPrimNeeds.middenref08_Need.j1 (m + 4) n i false = some 0 := fun m => by
      simp only [PPrimNeeds.middenref08_Need.j1]
      rw [if_neg (by decide), hb 9 (by decide) (by decide), j2]
      simp
    have j0 : ∀ m, PPrimNeeds.middenref08_Need.j0 (m + 5) n i false = some 0 := fun m => by
      simp only [PPrimNeeds.middenref08_Need.j0]
      rw [if_neg (by decide), if_neg (h 8 (by decide) (by decide)), hb 13 (by decide) (by decide), j1]
      simp
    unfold PPrimNeeds.middenref08_Need.f
    by_cases a : n ≥ 1
    · rw [if_pos a, if_neg (by omega)]; exact j0 4
    · rw [if_neg a]; exact j0 4
end Go.Proofs.YtcmdjdhiocbmnaaDoor.Pr
