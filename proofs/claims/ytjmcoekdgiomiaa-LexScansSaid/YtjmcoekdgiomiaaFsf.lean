/- The reference's scan, as the same plain function. No condition. -/
import Derived.Test.YtjmcoekdgiomiaaFse
set_option linter.unusedVariables false
set_option linter.unusedSimpArgs false
namespace Go.Proofs.Ytjmcoekdgiomiaa.Fsf
open Go.RowKit Go.Proofs.Ytjmcoekdgiomiaa.PLexScans Go.Proofs.YtjmcoekdgiomiaaW.PrintWords Go.Proofs.YtjmcoekdgiomiaaW.PrintLast
open Go.Proofs.Ytjmcoekdgiomiaa.Fsa Go.Proofs.Ytjmcoekdgiomiaa.Fsb Go.Proofs.Ytjmcoekdgiomiaa.Fse
theorem eq9 (c : UInt8) : ((c.toNat : Int) = 9) ↔ c = 9 := ⟨fun h => UInt8.toNat_inj.1 (show c.toNat = 9 by omega), fun h => by rw [h]; rfl⟩
theorem eq10 (c : UInt8) : ((c.toNat : Int) = 10) ↔ c = 10 := ⟨fun h => UInt8.toNat_inj.1 (show c.toNat = 10 by omega), fun h => by rw [h]; rfl⟩
theorem eq13 (c : UInt8) : ((c.toNat : Int) = 13) ↔ c = 13 := ⟨fun h => UInt8.toNat_inj.1 (show c.toNat = 13 by omega), fun h => by rw [h]; rfl⟩
theorem eq32 (c : UInt8) : ((c.toNat : Int) = 32) ↔ c = 32 := ⟨fun h => UInt8.toNat_inj.1 (show c.toNat = 32 by omega), fun h => by rw [h]; rfl⟩
theorem rblank_f (c : UInt8) : middenref05_blank.f (c.toNat : Int) = some (blankB c) := by
  unfold middenref05_blank.f blankB
  by_cases h1 : c = 9
  · rw [if_pos ((eq9 c).2 h1)]; simp [h1]
  · rw [if_neg (fun e => h1 ((eq9 c).1 e))]
    by_cases h2 : c = 10
    · rw [if_pos ((eq10 c).2 h2)]; simp [h2]
    · rw [if_neg (fun e => h2 ((eq10 c).1 e))]
      by_cases h3 : c = 13
      · rw [if_pos ((eq13 c).2 h3)]; simp [h3]
      · rw [if_neg (fun e => h3 ((eq13 c).1 e)), Option.some.injEq, Bool.eq_iff_iff]
        simp only [beq_iff_eq, eq32]
        simp [h1, h2, h3]
theorem skip_both (s : ByteArray) (hz : s.size ≤ 140737488350000) : ∀ (d n : Nat), n + d = s.size →
    (∀ k, 4 * d + 3 ≤ k → middenref05_Skip.l0 k s (n : Int) = some ((n + skipL false (s.data.toList.drop n) : Nat) : Int)) ∧
    (∀ k, 4 * d + 4 ≤ k → middenref05_Skip.l1 k s (n : Int) = some ((n + skipL true (s.data.toList.drop n) : Nat) : Int)) := by
  intro d
  induction d with
  | zero =>
    intro n hn
    have a : ∀ k, 4 * 0 + 3 ≤ k → middenref05_Skip.l0 k s (n : Int) = some ((n + skipL false (s.data.toList.drop n) : Nat) : Int) := by
      intro k hk
      obtain ⟨k, rfl⟩ : ∃ m, k = m + 1 := ⟨k - 1, by omega⟩
      simp only [middenref05_Skip.l0]
      rw [if_neg (by omega), skip_end _ _ _ (by omega)]
      rfl
    refine ⟨a, fun k hk => ?_⟩
    obtain ⟨k, rfl⟩ : ∃ m, k = m + 1 := ⟨k - 1, by omega⟩
    simp only [middenref05_Skip.l1]
    rw [if_neg (by omega), a k (by omega), skip_end _ _ _ (by omega), skip_end _ _ _ (by omega)]
  | succ d ih =>
    intro n hn
    have hlt : n < s.size := by omega
    obtain ⟨i0, i1⟩ := ih (n + 1) (by omega)
    have in_way : ∀ k, 4 * d + 4 ≤ k → s[n] ≠ 10 → middenref05_Skip.l1 (k + 1) s (n : Int) = some ((n + skipL true (s.data.toList.drop n) : Nat) : Int) := by
      intro k hk h10
      simp only [middenref05_Skip.l1]
      rw [if_pos (by omega), if_pos (by omega), bt_at' s n hlt, if_neg (fun e => h10 ((eq10 _).1 e)), wrap_one n (by omega), i1 k hk, skip_in s n hlt h10]
    have a : ∀ k, 4 * (d + 1) + 3 ≤ k → middenref05_Skip.l0 k s (n : Int) = some ((n + skipL false (s.data.toList.drop n) : Nat) : Int) := by
      intro k hk
      obtain ⟨k, rfl⟩ : ∃ m, k = m + 3 := ⟨k - 3, by omega⟩
      rw [middenref05_Skip.l0]
      rw [if_pos (by omega), if_pos (by omega), bt_at' s n hlt, rblank_f, wrap_one n (by omega)]
      simp only [Option.bind_some]
      by_cases hb : blankB s[n] = true
      · rw [if_pos hb, i0 (k + 2) (by omega), skip_blank s n hlt hb]
      · rw [if_neg hb]
        have hb' : blankB s[n] = false := by simpa using hb
        have out : ∀ x, ((s[n] = 45 ∧ ∃ h' : n + 1 < s.size, s[n + 1] = 45) ↔ x = true) → middenref05_Skip.j1 (k + 2) s (n : Int) x = some ((n + skipL false (s.data.toList.drop n) : Nat) : Int) := by
          intro x hx
          rw [middenref05_Skip.j1]
          cases x with
          | true =>
            obtain ⟨h45, h1, h2⟩ := hx.2 rfl
            rw [if_pos rfl, in_way k (by omega) (by rw [h45]; decide), skip_remark s n hlt h45 h1 h2]
          | false =>
            rw [if_neg Bool.false_ne_true, skip_none s n hlt hb' (fun h => Bool.false_ne_true (hx.1 h))]
        by_cases h45 : s[n] = 45
        · rw [if_pos ((eq45 _).2 h45)]
          by_cases h1 : n + 1 < s.size
          · rw [if_pos (by omega), if_pos (by omega), bt_at' s (n + 1) h1]
            refine out _ ?_
            rw [beq_iff_eq, eq45]
            exact ⟨fun h => h.2.2, fun h => ⟨h45, h1, h⟩⟩
          · rw [if_neg (by omega)]
            exact out _ ⟨fun h => absurd h.2.1 h1, fun h => absurd h Bool.false_ne_true⟩
        · rw [if_neg (fun e => h45 ((eq45 _).1 e))]
          exact out _ ⟨fun h => absurd h.1 h45, fun h => absurd h Bool.false_ne_true⟩
    refine ⟨a, fun k hk => ?_⟩
    by_cases h10 : s[n] = 10
    · obtain ⟨k, rfl⟩ : ∃ m, k = m + 1 := ⟨k - 1, by omega⟩
      simp only [middenref05_Skip.l1]
      rw [if_pos (by omega), if_pos (by omega), bt_at' s n hlt, if_pos ((eq10 _).2 h10), a k (by omega), skip_out s n hlt h10]
    · obtain ⟨k, rfl⟩ : ∃ m, k = m + 1 := ⟨k - 1, by omega⟩
      exact in_way k (by omega) h10
theorem skip_f (s : ByteArray) (hz : s.size ≤ 140737488350000) (k n : Nat) (hn : n ≤ s.size) (hk : 4 * s.size + 3 ≤ k) : middenref05_Skip.f k s (n : Int) = some ((n + skipL false (s.data.toList.drop n) : Nat) : Int) :=
  (skip_both s hz (s.size - n) n (by omega)).1 k (by omega)
theorem rscan_l0 (s : ByteArray) (hz : s.size ≤ 16384) : ∀ (f k n : Nat) (acc : List S34), n ≤ s.size → s.size - n < f → acc.length + (s.size - n) ≤ 16384 → 2 * f + 4 * s.size + 20 ≤ k →
    middenref05_Scan.l0 k s acc (n : Int) = some (scanL f (s.data.toList.drop n) n acc) := by
  intro f
  induction f with
  | zero => intro k n acc _ h; omega
  | succ f ih =>
    intro k n acc hn hf ha hk
    obtain ⟨k, rfl⟩ : ∃ m, k = m + 2 := ⟨k - 2, by omega⟩
    rw [scanL]
    show middenref05_Scan.l0 (k + 1 + 1) _ _ _ = _
    simp only [middenref05_Scan.l0]
    by_cases hlt : n < s.size
    · rw [if_pos (show (n : Int) < (s.size : Int) by omega), if_neg (by simp; omega), one_f s (by omega) (k + 1) n hlt (by omega)]
      have hu := tok_used (s.data.toList.drop n)
      generalize hT : tokL (s.data.toList.drop n) = T at hu ⊢
      unfold oneOut
      by_cases he : T.err = 0
      · rw [if_pos he, if_pos he]
        obtain ⟨hu1, hu2⟩ := hu he
        have hlen : (s.data.toList.drop n).length = s.size - n := by simp
        show (if (0 : Int) = 0 then middenref05_Scan.j1 (k + 1) s acc (n : Int) ((n + T.used.length : Nat) : Int) 0 (decide (((B T.text).size : Int) > 32)) T.kind (B T.text) T.n (n : Int) else middenref05_Scan.j1 (k + 1) s acc (n : Int) ((n + T.used.length : Nat) : Int) 0 false T.kind (B T.text) T.n (n : Int)) = _
        rw [if_pos rfl]
        simp only [middenref05_Scan.j1]
        by_cases h32 : T.text.length > 32
        · have hd : decide (((B T.text).size : Int) > 32) = true := decide_eq_true (by rw [B_size]; omega)
          rw [hd, if_pos rfl, if_pos h32]
        · have hd : decide (((B T.text).size : Int) > 32) = false := decide_eq_false (by rw [B_size]; omega)
          have hnu : n + T.used.length ≤ s.size := by omega
          rw [hd, if_neg Bool.false_ne_true, if_neg h32, if_pos trivial, if_pos (by omega), skip_f s (by omega) k _ hnu (by omega)]
          simp only [Option.bind_some, List.drop_drop]
          have hsk := skip_le false (s.data.toList.drop (n + T.used.length))
          have hl2 : (s.data.toList.drop (n + T.used.length)).length = s.size - (n + T.used.length) := by simp
          rw [hl2] at hsk
          generalize skipL false (s.data.toList.drop (n + T.used.length)) = q at hsk ⊢
          generalize T.used.length = u at *
          exact ih k (n + u + q) (acc ++ [⟨T.kind, B T.text, T.n, (n : Int)⟩]) (by omega) (by omega) (by simp; omega) (by omega)
      · rw [if_neg he, if_neg he]
        show (if T.err = 0 then middenref05_Scan.j1 (k + 1) s acc (n : Int) 0 T.err (decide (((B []).size : Int) > 32)) 0 (B []) 0 0 else middenref05_Scan.j1 (k + 1) s acc (n : Int) 0 T.err false 0 (B []) 0 0) = _
        rw [if_neg he]
        simp only [middenref05_Scan.j1]
        rw [if_neg Bool.false_ne_true, if_neg he]
    · rw [if_neg (show ¬ (n : Int) < (s.size : Int) by omega), if_pos (by simp; omega)]
theorem rscan_f (s : ByteArray) (k : Nat) (h : s.size ≤ 140737488351232) (hk : 6 * s.size + 30 ≤ k) : middenref05_Scan.f k s = some (scanAll s.data.toList) := by
  unfold middenref05_Scan.f scanAll
  by_cases hz : s.size > 16384
  · rw [if_pos (show (s.size : Int) > 16384 by omega), if_pos (by simpa using hz)]
  · rw [if_neg (show ¬ (s.size : Int) > 16384 by omega), if_neg (by simpa using hz)]
    have hb := skip_f s (by omega) k 0 (by omega) (by omega)
    rw [List.drop_zero, Nat.zero_add] at hb
    have hb' : middenref05_Skip.f k s 0 = some ((skipL false s.data.toList : Nat) : Int) := hb
    rw [hb']
    simp only [Option.bind_some]
    have hsk := skip_le false s.data.toList
    have hl : s.data.toList.length = s.size := by simp
    have := rscan_l0 s (by omega) (s.size + 1) k (skipL false s.data.toList) [] (by omega) (by omega) (by simp; omega) (by omega)
    rw [this, hl]
end Go.Proofs.Ytjmcoekdgiomiaa.Fsf
