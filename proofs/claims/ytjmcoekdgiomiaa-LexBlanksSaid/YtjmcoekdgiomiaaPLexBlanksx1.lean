-- laid by a program of this seat, on the kit's print, over contracts written by hand
import Derived.Test.YtjmcoekdgiomiaaPLexBlanksx0
namespace Go.Proofs.Ytjmcoekdgiomiaa.PLexBlanks
open Go.RowKit Go.Proofs.YtjmcoekdgiomiaaW.PrintWords Go.Proofs.YtjmcoekdgiomiaaW.PrintLast Go.Proofs.YtjmcoekdgiomiaaW.PrintMore
attribute [local go_sem] max2_int min2_int max_two min_two max_three min_three max_four min_four   -- for this text's walks alone
set_option linter.unusedVariables false
set_option linter.unusedSimpArgs false

/-- A state of type 44 at block g of W; what its slices lead to came in by w0. -/
def IsS44 (w0 W : World) (g : Nat) (f0 : ByteArray) (f1 : Int) : Prop := W.heap[g]? = some (.cells #[.string f0, .int .i64 f1] 44 (0, 0)) ∧ w0.heap.size ≤ g
theorem IsS44.grown {w0 W : World} {g : Nat} {f0 : ByteArray} {f1 : Int} {W1 : World} {row : Option Nat} (h : IsS44 w0 W g f0 f1) (hw : W.grownBy W1 row) (hne : some g ≠ row) : IsS44 w0 W1 g f0 f1 := by
  obtain ⟨hb, hg⟩ := h
  exact ⟨blk_grown hb hw hne, hg⟩
theorem IsS44.own_neN {w0 W : World} {g : Nat} {f0 : ByteArray} {f1 : Int} {α : Type} {d : Kd α} {e : Nat} {base : Nat} {ok : Nat → Prop} {v : Value} {xs : List α} (h : IsS44 w0 W g f0 f1) (ho : Kd.N d e W base ok v xs) (ht : e ≠ 44) : some g ≠ v.ownBlock := by
  obtain ⟨hb, hg⟩ := h
  exact Kd.N_ne ho hb ht
theorem IsS44.fresh {w0 W : World} {g : Nat} {f0 : ByteArray} {f1 : Int} (h : IsS44 w0 W g f0 f1) : ∀ k, W.heap.size ≤ k → k ≠ g := by
  obtain ⟨hb, hg⟩ := h
  exact Kd.freshB hb
theorem IsS44.kept {w0 W : World} {g : Nat} {f0 : ByteArray} {f1 : Int} {W1 : World} {S : Nat → Prop} (h : IsS44 w0 W g f0 f1) (hk : Kept W W1 S) (hne : ¬ S g) : IsS44 w0 W1 g f0 f1 := by
  obtain ⟨hb, hg⟩ := h
  exact ⟨blk_kept hb hk hne, hg⟩
theorem IsS44.below {w0 W : World} {g : Nat} {f0 : ByteArray} {f1 : Int} {W1 : World} (h : IsS44 w0 W g f0 f1) (hw : Below W.heap.size W W1) : IsS44 w0 W1 g f0 f1 := h.grown (grown_of_below hw none) (by simp)
theorem IsS44.alloc {w0 W : World} {g : Nat} {f0 : ByteArray} {f1 : Int} (h : IsS44 w0 W g f0 f1) (o : Obj) : IsS44 w0 (W.alloc o) g f0 f1 := h.below (below_alloc (Below.refl _ _) o)
theorem IsS44.drewN {w0 W : World} {g : Nat} {f0 : ByteArray} {f1 : Int} (h : IsS44 w0 W g f0 f1) (m : Nat) : IsS44 w0 (W.drewN m) g f0 f1 := h
theorem IsS44.drew {w0 W : World} {g : Nat} {f0 : ByteArray} {f1 : Int} (h : IsS44 w0 W g f0 f1) : IsS44 w0 W.drew g f0 f1 := h
theorem IsS44.at_ {w0 W : World} {g : Nat} {f0 : ByteArray} {f1 : Int} {w' : World} {m : Nat} (hq : W.drewN m = w') (h : IsS44 w0 W g f0 f1) : IsS44 w0 w' g f0 f1 := by subst hq; exact IsS44.drewN h m
theorem IsS44.apart {w0 W : World} {g : Nat} {f0 : ByteArray} {f1 : Int} {α : Type} {d : Kd α} {e : Nat} {base : Nat} {ok : Nat → Prop} {v : Value} {xs : List α} (h : IsS44 w0 W g f0 f1) (ho : d.R e W base ok v xs) (ht : ∀ q, q ∈ e :: d.E → q ≠ 44) : d.R e W base (fun k => ok k ∧ k ≠ g) v xs := by
  obtain ⟨hb, hg⟩ := h
  exact Kd.R_types ho hb ht
theorem IsS44.own_ne {w0 W : World} {g : Nat} {f0 : ByteArray} {f1 : Int} {α : Type} {d : Kd α} {e : Nat} {base : Nat} {ok : Nat → Prop} {v : Value} {xs : List α} (h : IsS44 w0 W g f0 f1) (ho : d.R e W base ok v xs) (ht : e ≠ 44) : some g ≠ v.ownBlock := by
  obtain ⟨hb, hg⟩ := h
  exact Kd.R_ne ho hb ht
theorem IsS44.apartQ {w0 W : World} {g : Nat} {f0 : ByteArray} {f1 : Int} {α : Type} {d : Kd α} {e : Nat} {base : Nat} {ok : Nat → Prop} {v : Value} {xs : List α} (h : IsS44 w0 W g f0 f1) (ho : d.Q e W base ok v xs) (ht : ∀ q, q ∈ e :: d.E → q ≠ 44) : d.Q e W base (fun k => ok k ∧ k ≠ g) v xs := by
  obtain ⟨hb, hg⟩ := h
  exact Kd.Q_types ho hb ht
theorem IsS44.own_neQ {w0 W : World} {g : Nat} {f0 : ByteArray} {f1 : Int} {α : Type} {d : Kd α} {e : Nat} {base : Nat} {ok : Nat → Prop} {v : Value} {xs : List α} (h : IsS44 w0 W g f0 f1) (ho : d.Q e W base ok v xs) (ht : e ≠ 44) : some g ≠ v.ownBlock := by
  obtain ⟨hb, hg⟩ := h
  exact Kd.Q_ne ho hb ht
theorem IsS44.apartS {w0 W : World} {g : Nat} {f0 : ByteArray} {f1 : Int} {α : Type} {d : Kd α} {e : Nat} {base : Nat} {ok : Nat → Prop} {v : Value} {xs : List α} (h : IsS44 w0 W g f0 f1) (ho : d.S e W base ok v xs) (ht : ∀ q, q ∈ e :: d.E → q ≠ 44) : d.S e W base (fun k => ok k ∧ k ≠ g) v xs := by
  obtain ⟨hb, hg⟩ := h
  exact Kd.S_types ho hb ht
theorem IsS44.own_neS {w0 W : World} {g : Nat} {f0 : ByteArray} {f1 : Int} {α : Type} {d : Kd α} {e : Nat} {base : Nat} {ok : Nat → Prop} {v : Value} {xs : List α} (h : IsS44 w0 W g f0 f1) (ho : d.S e W base ok v xs) (ht : e ≠ 44) : some g ≠ v.ownBlock := by
  obtain ⟨hb, hg⟩ := h
  exact Kd.S_ne ho hb ht
theorem IsS44.lt {w0 W : World} {g : Nat} {f0 : ByteArray} {f1 : Int} (h : IsS44 w0 W g f0 f1) : g < W.heap.size := by
  obtain ⟨hb, hg⟩ := h
  exact blk_lt hb
theorem IsS44.ge {w0 W : World} {g : Nat} {f0 : ByteArray} {f1 : Int} (h : IsS44 w0 W g f0 f1) : w0.heap.size ≤ g := by
  obtain ⟨hb, hg⟩ := h
  exact hg
theorem IsS44.ne_blk {w0 W : World} {g : Nat} {f0 : ByteArray} {f1 : Int} {a : Nat} {cs : Array Value} {t : TypeId} {fr : Nat × Nat} (h : IsS44 w0 W g f0 f1) (hb2 : W.heap[a]? = some (.cells cs t fr)) (ht : t ≠ 44) : g ≠ a := by
  obtain ⟨hb, hg⟩ := h
  rintro rfl
  rw [hb] at hb2
  injection hb2 with hb2
  injection hb2 with _ ht2
  exact ht ht2.symm
theorem IsS44.far {w0 W : World} {g : Nat} {f0 : ByteArray} {f1 : Int} {p : Addr} (h : IsS44 w0 W g f0 f1) (hne : g ≠ p.block) (u : Value) : IsS44 w0 (W.setCell p u) g f0 f1 := by
  obtain ⟨hb, hg⟩ := h
  exact ⟨blk_far hb hne u, hg⟩
theorem cellS44_0 {W : World} {g : Nat} {f0 : ByteArray} {f1 : Int} (h : W.heap[g]? = some (.cells #[.string f0, .int .i64 f1] 44 (0, 0))) : W.cell? ⟨g, 0, none⟩ = some (.string f0) := (blk_cell h 0).trans rfl
theorem IsS44.set_0 {w0 W : World} {g : Nat} {f0 : ByteArray} {f1 : Int} (h : IsS44 w0 W g f0 f1) (x : ByteArray) : IsS44 w0 (W.setCell ⟨g, 0, none⟩ (.string x)) g x f1 := by
  obtain ⟨hb, hg⟩ := h
  exact ⟨by simpa using blk_set hb 0 (.string x), hg⟩
theorem cellS44_1 {W : World} {g : Nat} {f0 : ByteArray} {f1 : Int} (h : W.heap[g]? = some (.cells #[.string f0, .int .i64 f1] 44 (0, 0))) : W.cell? ⟨g, 1, none⟩ = some (.int .i64 f1) := (blk_cell h 1).trans rfl
theorem IsS44.set_1 {w0 W : World} {g : Nat} {f0 : ByteArray} {f1 : Int} (h : IsS44 w0 W g f0 f1) (x : Int) : IsS44 w0 (W.setCell ⟨g, 1, none⟩ (.int .i64 x)) g f0 x := by
  obtain ⟨hb, hg⟩ := h
  exact ⟨by simpa using blk_set hb 1 (.int .i64 x), hg⟩
theorem IsS44.new (w0 W : World) (f0 : ByteArray) (f1 : Int) (hB : Below w0.heap.size w0 W) : IsS44 w0 (W.alloc (.cells #[.string f0, .int .i64 f1] 44)) W.heap.size f0 f1 := ⟨by simpa using heap_alloc_new W _, hB.size⟩

/-! ### lex_reader_byte: function 28 -/
def lex_reader_byte.f (s0_0 : ByteArray) (s0_1 : Int) (a1 : Int) : Option (Int × ByteArray × Int) := if (wrap64 (s0_1 + a1)) < (s0_0.size : Int) then (if 0 ≤ (wrap64 (s0_1 + a1)) then (some (bt s0_0 (wrap64 (s0_1 + a1)), s0_0, s0_1)) else (none)) else (some (0, s0_0, s0_1))
set_option maxHeartbeats 8000000 in
set_option maxRecDepth 100000 in
theorem lex_reader_byte.calls (g : Nat) (s0_0 : ByteArray) (s0_1 : Int) (a1 : Int) (r1 : Int) (r2 : ByteArray) (r3 : Int) (w0 w : World) (hI : IsS44 w0 w g s0_0 s0_1) (hB : Below w0.heap.size w0 w) (h : lex_reader_byte.f s0_0 s0_1 a1 = some (r1, r2, r3)) :
    Calls Try.prog 28 #[.pointer (some ⟨g, 0, none⟩), .int .i64 a1] w fun e w' => e = .returned (.int .u8 r1) ∧ IsS44 w0 w' g r2 r3 ∧ Below w0.heap.size w0 w' ∧ KeepBut w w' g none := by
  have HI0 := Aside0.mk hI
  have HK := Aside0.mk (KeepBut.refl w g none)
  have HL := Aside0.mk hB.size
  clear hI
  have HW0 := Aside0.mk hB.size
  have HB := Aside0.mk hB
  clear hB
  have H : (if (wrap64 (s0_1 + a1)) < (s0_0.size : Int) then (if 0 ≤ (wrap64 (s0_1 + a1)) then (some (bt s0_0 (wrap64 (s0_1 + a1)), s0_0, s0_1)) else (none)) else (some (0, s0_0, s0_1))) = some (r1, r2, r3) := h
  clear h
  by_cases c3 : (wrap64 (s0_1 + a1)) < (s0_0.size : Int)
  · rw [if_pos c3] at H
    have c3b0 : decide ((wrap64 (s0_1 + a1)) < (s0_0.size : Int)) = true := decide_eq_true c3
    clear c3
    obtain ⟨ji4, hji4⟩ : ∃ j_ : Int, (wrap64 (s0_1 + a1)) = j_ := ⟨_, rfl⟩
    replace H : (if 0 ≤ (ji4) then (some (bt s0_0 (ji4), s0_0, s0_1)) else (none)) = some (r1, r2, r3) := by first | (rw [hji4] at H; exact H) | (simp only [hji4] at H ⊢; exact H)
    (try rw [hji4] at c3b0)
    have hji4w : (IntKind.i64.wrap (s0_1 + a1)) = ji4 := (i64_w _).trans hji4
    by_cases c5 : 0 ≤ (ji4)
    · rw [if_pos c5] at H
      have c5b0 : decide (0 ≤ (ji4)) = true := decide_eq_true c5
      clear c5
      simp only [Option.some.injEq, Prod.mk.injEq] at H
      obtain ⟨rfl, rfl, rfl⟩ := H
      obtain ⟨HGz7, hgz7⟩ := HI0.out
      have hcz7_0 := cellS44_0 HGz7
      have hcz7_1 := cellS44_1 HGz7
      have hfz7_0 := blk_frozen HGz7 0
      have hfz7_1 := blk_frozen HGz7 1
      clear HGz7 hgz7
      have p6 : 0 ≤ ((ji4) : Int) := of_decide_eq_true (by first | (with_reducible assumption) | assumption)
      have q6 : (ji4) < (s0_0.size : Int) := of_decide_eq_true (by first | (with_reducible assumption) | assumption)
      have hx6 := bt_at s0_0 (ji4)
      replace p6 := eq_true p6
      replace q6 := eq_true q6
      go_enter Try.func28, Try.ntmps28
      go_wp2
      repeat (go_quiet (fail); try go_wp2)
      go_ret
      exact ⟨by first | rfl | (simp [errW_none, errW_some] <;> rfl) | (simp only [← hji4]; first | rfl | (simp [errW_none, errW_some] <;> rfl)) | (simp [*, errW_none, errW_some] <;> rfl), by repeat (first | (with_reducible first | exact HI0.out | apply IsS44.alloc | apply IsS44.drewN | apply IsS44.drew | apply IsS44.set_0 | apply IsS44.set_1) | exact HI0.out), by repeat (first | (with_reducible first | exact HB.out | apply below_alloc | apply pw_below_drewN | apply below_drew1 | refine below_set ?_ (IsS44.ge HI0.out)) | exact HB.out), by repeat (first | (with_reducible first | exact HK.out | apply KeepBut.set_ | apply keep_drewN | apply keep_drew | apply keep_alloc) | exact HK.out)⟩
    · rw [if_neg c5] at H
      exact absurd H (by simp)
  · rw [if_neg c3] at H
    have c3b0 : decide ((wrap64 (s0_1 + a1)) < (s0_0.size : Int)) = false := decide_eq_false c3
    clear c3
    simp only [Option.some.injEq, Prod.mk.injEq] at H
    obtain ⟨rfl, rfl, rfl⟩ := H
    obtain ⟨HGz8, hgz8⟩ := HI0.out
    have hcz8_0 := cellS44_0 HGz8
    have hcz8_1 := cellS44_1 HGz8
    have hfz8_0 := blk_frozen HGz8 0
    have hfz8_1 := blk_frozen HGz8 1
    clear HGz8 hgz8
    go_enter Try.func28, Try.ntmps28
    go_wp2
    repeat (go_quiet (fail); try go_wp2)
    go_ret
    exact ⟨by first | rfl | (simp [errW_none, errW_some] <;> rfl) | (simp [*, errW_none, errW_some] <;> rfl), by repeat (first | (with_reducible first | exact HI0.out | apply IsS44.alloc | apply IsS44.drewN | apply IsS44.drew | apply IsS44.set_0 | apply IsS44.set_1) | exact HI0.out), by repeat (first | (with_reducible first | exact HB.out | apply below_alloc | apply pw_below_drewN | apply below_drew1 | refine below_set ?_ (IsS44.ge HI0.out)) | exact HB.out), by repeat (first | (with_reducible first | exact HK.out | apply KeepBut.set_ | apply keep_drewN | apply keep_drew | apply keep_alloc) | exact HK.out)⟩

/-! ### lex_reader_blanks: function 20; by hand -/
/-- The bytes of names. -/
def insB (c : UInt8) : Bool := (48 ≤ c && c ≤ 57) || (97 ≤ c && c ≤ 122) || (65 ≤ c && c ≤ 90) || c == 95
/-- The digits. -/
def digB (c : UInt8) : Bool := 48 ≤ c && c ≤ 57
/-- Blanks. -/
def blankB (c : UInt8) : Bool := c == 32 || c == 9 || c == 10 || c == 13
/-- How many bytes of blanks and remarks there are at a text's begin (true: within a remark). -/
def skipL : Bool → List UInt8 → Nat
  | _, [] => 0
  | true, c :: l => 1 + skipL (c != 10) l
  | false, c :: l => if blankB c then 1 + skipL false l else if c == 45 && l.head? == some 45 then 1 + skipL true l else 0
def lex_reader_blanks.f (s0_0 : ByteArray) (s0_1 : Int) : Option (ByteArray × Int) :=
  if 0 ≤ s0_1 ∧ s0_1 ≤ (s0_0.size : Int) ∧ s0_0.size ≤ 140737488351232 then some (s0_0, ((s0_1.toNat + skipL false (s0_0.data.toList.drop s0_1.toNat) : Nat) : Int)) else none
theorem skip_end (b : Bool) (s : ByteArray) (n : Nat) (h : s.size ≤ n) : skipL b (s.data.toList.drop n) = 0 := by
  rw [List.drop_eq_nil_of_le (by simpa using h)]
  cases b <;> rfl
theorem drop_at (s : ByteArray) (n : Nat) (h : n < s.size) : s.data.toList.drop n = s[n] :: s.data.toList.drop (n + 1) := by
  rw [List.drop_eq_getElem_cons (by simpa using h)]
  simp [ByteArray.getElem_eq_getElem_data]
theorem head_at (s : ByteArray) (n : Nat) : (s.data.toList.drop n).head? = if h : n < s.size then some s[n] else none := by
  by_cases h : n < s.size
  · rw [drop_at s n h]; simp [h]
  · rw [List.drop_eq_nil_of_le (by simp; omega)]; simp [h]
theorem skip_blank (s : ByteArray) (n : Nat) (h : n < s.size) (hb : blankB s[n] = true) : n + skipL false (s.data.toList.drop n) = n + 1 + skipL false (s.data.toList.drop (n + 1)) := by
  rw [drop_at s n h]; simp [skipL, hb]; omega
theorem skip_none (s : ByteArray) (n : Nat) (h : n < s.size) (hb : blankB s[n] = false) (hc : ¬ (s[n] = 45 ∧ ∃ h' : n + 1 < s.size, s[n + 1] = 45)) : n + skipL false (s.data.toList.drop n) = n := by
  rw [drop_at s n h]
  have := head_at s (n + 1)
  simp only [skipL, hb, this]
  by_cases h1 : s[n] = 45
  · by_cases h2 : n + 1 < s.size
    · have h3 : s[n + 1] ≠ 45 := fun e => hc ⟨h1, h2, e⟩
      simp [h1, h2, h3]
    · simp [h1, h2]
  · simp [h1]
theorem skip_remark (s : ByteArray) (n : Nat) (h : n < s.size) (h1 : s[n] = 45) (h2 : n + 1 < s.size) (h3 : s[n + 1] = 45) : n + skipL false (s.data.toList.drop n) = n + skipL true (s.data.toList.drop n) := by
  rw [drop_at s n h]
  have := head_at s (n + 1)
  have hb : blankB (45 : UInt8) = false := by decide
  simp only [skipL, h1, hb, this]
  simp [h2, h3]
theorem skip_in (s : ByteArray) (n : Nat) (h : n < s.size) (h1 : s[n] ≠ 10) : n + skipL true (s.data.toList.drop n) = n + 1 + skipL true (s.data.toList.drop (n + 1)) := by
  rw [drop_at s n h]
  have : (s[n] != 10) = true := by simpa using h1
  simp [skipL, this]; omega
theorem skip_out (s : ByteArray) (n : Nat) (h : n < s.size) (h1 : s[n] = 10) : n + skipL true (s.data.toList.drop n) = n + skipL false (s.data.toList.drop n) := by
  rw [drop_at s n h]
  simp [skipL, h1, blankB]
/-- The byte so many places on; 0: there is none. -/
def byteAt (s : ByteArray) (n : Nat) : Nat := if h : n < s.size then s[n].toNat else 0
theorem byte_f (s : ByteArray) (n m : Nat) (h : s.size ≤ 140737488351232) (hn : n ≤ s.size) (hm : m ≤ 1) : lex_reader_byte.f s (n : Int) (m : Int) = some ((byteAt s (n + m) : Int), s, (n : Int)) := by
  unfold lex_reader_byte.f byteAt
  have e : wrap64 ((n : Int) + (m : Int)) = ((n + m : Nat) : Int) := by unfold wrap64; omega
  rw [e]
  by_cases hlt : n + m < s.size
  · rw [if_pos (show ((n + m : Nat) : Int) < (s.size : Int) by omega), if_pos (show (0 : Int) ≤ ((n + m : Nat) : Int) by omega), dif_pos hlt]
    unfold bt
    rw [dif_pos (show ((n + m : Nat) : Int).toNat < s.size by omega)]
    simp only [Int.toNat_natCast]
  · rw [if_neg (show ¬ ((n + m : Nat) : Int) < (s.size : Int) by omega), dif_neg hlt]
    rfl
/-- Where the walk stands. -/
structure BlAt (w0 w wr : World) (g : Nat) (s : ByteArray) (n : Nat) : Prop where
  is : IsS44 w0 wr g s (n : Int)
  bel : Below w0.heap.size w0 wr
  keep : KeepBut w wr g none
theorem BlAt.set {w0 w wr : World} {g : Nat} {s : ByteArray} {n : Nat} (h : BlAt w0 w wr g s n) (m : Nat) : BlAt w0 w (wr.setCell ⟨g, 1, none⟩ (.int .i64 (m : Int))) g s m :=
  ⟨h.is.set_1 _, below_set h.bel h.is.ge, KeepBut.set_ h.keep 1 _⟩
theorem BlAt.drewN {w0 w wr : World} {g : Nat} {s : ByteArray} {n : Nat} (h : BlAt w0 w wr g s n) (m : Nat) : BlAt w0 w (wr.drewN m) g s n :=
  ⟨h.is.drewN _, pw_below_drewN h.bel _, keep_drewN h.keep _⟩
set_option maxHeartbeats 2000000 in
set_option maxRecDepth 100000 in
theorem lex_reader_blanks.calls (g : Nat) (s0_0 : ByteArray) (s0_1 : Int) (r1 : ByteArray) (r2 : Int) (w0 w : World) (hI : IsS44 w0 w g s0_0 s0_1) (hB : Below w0.heap.size w0 w) (h : lex_reader_blanks.f s0_0 s0_1 = some (r1, r2)) :
    Calls Try.prog 20 #[.pointer (some ⟨g, 0, none⟩)] w fun e w' => e = .returned (.tuple #[]) ∧ IsS44 w0 w' g r1 r2 ∧ Below w0.heap.size w0 w' ∧ KeepBut w w' g none := by
  unfold lex_reader_blanks.f at h
  split at h
  case isFalse => cases h
  rename_i hc
  obtain ⟨h0, h2, h3⟩ := hc
  simp only [Option.some.injEq, Prod.mk.injEq] at h
  obtain ⟨rfl, rfl⟩ := h
  obtain ⟨at_, rfl⟩ := Int.eq_ofNat_of_zero_le h0
  rw [Int.toNat_natCast]
  have hz : s0_0.size ≤ 9223372036854775807 := by omega
  have hat : at_ ≤ s0_0.size := by omega
  have HA : Hid (BlAt w0 w w g s0_0 at_) := ⟨hI, hB, KeepBut.refl _ _ _⟩
  obtain ⟨N, hN⟩ : ∃ N, at_ + skipL false (s0_0.data.toList.drop at_) = N := ⟨_, rfl⟩
  rw [hN]
  have HN := Lib.hid hN
  clear hI hB hN h0 h2
  go_enter Try.func20, Try.ntmps20
  go_wp2_with fail
  go_step3
  go_wp2_with fail
  go_step3
  go_wp2_with fail
  go_loopg [2] (s0_0.size - at_) (fun kq v2 wr => ∃ n : Nat, n ≤ s0_0.size ∧ kq = s0_0.size - n ∧ Hid (n + skipL false (s0_0.data.toList.drop n) = N) ∧ Hid (BlAt w0 w wr g s0_0 n))
  case atStart => exact ⟨at_, hat, rfl, HN, HA⟩
  case round =>
    clear HN HA
    obtain ⟨n, hn, hk, HN, HA⟩ := hrel
    have HK := Lib.hid hk
    clear hk
    have HG := HA.out.is.1
    have c0 := cellS44_0 HG
    have c1 := cellS44_1 HG
    have f0 := blk_frozen HG 0
    have f1 := blk_frozen HG 1
    clear HG
    by_cases hlt : n < s0_0.size
    · have z1 : ((n : Int) < (s0_0.size : Int)) = True := eq_true (by omega)
      have z2 : decide ((n : Int) < (s0_0.size : Int)) = true := decide_eq_true (by omega)
      by_cases hb : blankB s0_0[n] = true
      · have hs := skip_blank s0_0 n hlt hb
        have HS := Lib.hid (hs.symm.trans HN.out)
        have hc : ((s0_0[n].toNat : Int) = 32 ∨ (s0_0[n].toNat : Int) = 9) ∨ ((s0_0[n].toNat : Int) = 10 ∨ (s0_0[n].toNat : Int) = 13) := by
          unfold blankB at hb
          simp only [Bool.or_eq_true, beq_iff_eq] at hb
          rcases hb with ((hb | hb) | hb) | hb <;> rw [hb] <;> decide
        clear hb hs HN
        rcases hc with (hc | hc) | (hc | hc)
        all_goals
          go_wp2_with fail
          go_quiet (fail)
          go_wp2_with fail
          go_quiet (fail)
          go_wp2_with fail
          go_roundg (s0_0.size - (n + 1))
          case measure => have := HK.out; omega
          case rel => exact ⟨n + 1, by omega, rfl, HS, Lib.hid ((HA.out.drewN _).set (n + 1))⟩
      · have hc : ¬ ((s0_0[n].toNat : Int) = 32) ∧ ¬ ((s0_0[n].toNat : Int) = 9) ∧ ¬ ((s0_0[n].toNat : Int) = 10) ∧ ¬ ((s0_0[n].toNat : Int) = 13) := by
          refine ⟨fun e => hb ?_, fun e => hb ?_, fun e => hb ?_, fun e => hb ?_⟩ <;> unfold blankB <;> simp only [Bool.or_eq_true, beq_iff_eq, ← UInt8.toNat_inj] <;> simp <;> omega
        obtain ⟨hc1, hc2, hc3, hc4⟩ := hc
        replace hc1 := beq_eq_false_iff_ne.2 hc1
        replace hc2 := beq_eq_false_iff_ne.2 hc2
        replace hc3 := beq_eq_false_iff_ne.2 hc3
        replace hc4 := beq_eq_false_iff_ne.2 hc4
        have hb' : blankB s0_0[n] = false := by simpa using hb
        have HBL := Lib.hid hb'
        clear hb hb'
        by_cases h45 : (s0_0[n].toNat : Int) = 45
        · have e45 : s0_0[n] = 45 := by rw [← UInt8.toNat_inj]; show s0_0[n].toNat = 45; omega
          have HE45 := Lib.hid e45
          clear e45
          have HC := Lib.hid (fun (w1 : World) (a : IsS44 w0 w1 g s0_0 (n : Int)) (b : Below w0.heap.size w0 w1) => lex_reader_byte.calls g s0_0 n 1 _ _ _ w0 w1 a b (byte_f s0_0 n 1 (by omega) hn (by omega)))
          clear hc1 hc2 hc3 hc4
          have hb2 : byteAt s0_0 (n + 1) = 45 ∨ ((byteAt s0_0 (n + 1) : Int) == 45) = false := by
            by_cases e : byteAt s0_0 (n + 1) = 45
            · exact .inl e
            · exact .inr (beq_eq_false_iff_ne.2 (by omega))
          rcases hb2 with hb2 | hb2
          · have h12 : ∃ h2 : n + 1 < s0_0.size, s0_0[n + 1] = 45 := by
              unfold byteAt at hb2
              split at hb2
              · rename_i h; exact ⟨h, by rw [← UInt8.toNat_inj]; exact hb2⟩
              · cases hb2
            obtain ⟨h12, h13⟩ := h12
            have HS := Lib.hid ((skip_remark s0_0 n hlt HE45.out h12 h13).symm.trans HN.out)
            have hb3 : (byteAt s0_0 (n + 1) : Int) = 45 := by omega
            rw [hb3] at HC
            clear h12 h13 hb2 hb3
            go_wp2_with fail
            go_quiet (fail)
            go_wp2_with fail
            go_quiet (fail)
            go_wp2_with fail
            refine (HC.out _ (HA.out.is.drewN _) (pw_below_drewN HA.out.bel _)).mono ?_; rintro e w5 ⟨rfl, i5, b5, k5⟩
            have H5 : Hid (BlAt w0 w w5 g s0_0 n) := ⟨i5, b5, KeepBut.trans (keep_drewN HA.out.keep _) k5 (.inl rfl)⟩
            clear i5 b5 k5 c0 c1 f0 f1 z1 z2
            go_wp2_with fail
            go_loopg [52] (s0_0.size - n) (fun kq v52 wq => ∃ q : Nat, n ≤ q ∧ q ≤ s0_0.size ∧ kq = s0_0.size - q ∧ Hid (q + skipL true (s0_0.data.toList.drop q) = N) ∧ Hid (BlAt w0 w wq g s0_0 q))
            case atStart => exact ⟨n, Nat.le_refl _, hn, rfl, HS, H5⟩
            case round =>
              obtain ⟨q, hq1, hq2, hkq, HQ, HAq⟩ := hrel
              have HKq := Lib.hid hkq
              clear hkq
              have HG := HAq.out.is.1
              have c0 := cellS44_0 HG
              have c1 := cellS44_1 HG
              have f0 := blk_frozen HG 0
              have f1 := blk_frozen HG 1
              clear HG
              by_cases hql : q < s0_0.size
              · have z1 : ((q : Int) < (s0_0.size : Int)) = True := eq_true (by omega)
                have z2 : decide ((q : Int) < (s0_0.size : Int)) = true := decide_eq_true (by omega)
                by_cases h10 : s0_0[q] = 10
                · have y : ((s0_0[q].toNat : Int) != 10) = false := by rw [h10]; rfl
                  have HO := Lib.hid ((skip_out s0_0 q hql h10).symm.trans HQ.out)
                  have hqn : n < q := by
                    rcases Nat.lt_or_ge n q with h | h
                    · exact h
                    · have e : q = n := by omega
                      subst e
                      rw [HE45.out] at h10
                      exact absurd h10 (by decide)
                  clear h10
                  go_wp2_with fail
                  go_quiet (fail)
                  go_wp2_with fail
                  go_roundg (s0_0.size - q)
                  case measure => have := HK.out; omega
                  case rel => exact ⟨q, by omega, rfl, HO, Lib.hid (HAq.out.drewN _)⟩
                · have y : ((s0_0[q].toNat : Int) != 10) = true := by rw [bne_iff_ne]; intro e; exact h10 (by rw [← UInt8.toNat_inj]; show s0_0[q].toNat = 10; omega)
                  have HO := Lib.hid ((skip_in s0_0 q hql h10).symm.trans HQ.out)
                  clear h10
                  go_wp2_with fail
                  go_quiet (fail)
                  go_wp2_with fail
                  go_roundg (s0_0.size - (q + 1))
                  case measure => have := HKq.out; omega
                  case rel => exact ⟨q + 1, by omega, by omega, rfl, HO, Lib.hid ((HAq.out.drewN _).set (q + 1))⟩
              · have z1 : ((q : Int) < (s0_0.size : Int)) = False := eq_false (by omega)
                have z2 : decide ((q : Int) < (s0_0.size : Int)) = false := decide_eq_false (by omega)
                have HO := Lib.hid ((show q + skipL false (s0_0.data.toList.drop q) = q + skipL true (s0_0.data.toList.drop q) by rw [skip_end _ _ _ (by omega), skip_end _ _ _ (by omega)]).trans HQ.out)
                go_wp2_with fail
                go_quiet (fail)
                go_wp2_with fail
                go_roundg (s0_0.size - q)
                case measure => have := HK.out; omega
                case rel => exact ⟨q, by omega, rfl, HO, Lib.hid (HAq.out.drewN _)⟩
          · have hs := skip_none s0_0 n hlt HBL.out (fun h => by
              obtain ⟨_, h2, h3⟩ := h
              unfold byteAt at hb2
              rw [dif_pos h2, h3] at hb2
              exact absurd hb2 (by decide))
            have HS := Lib.hid (hs.symm.trans HN.out)
            clear hs
            go_wp2_with fail
            go_quiet (fail)
            go_wp2_with fail
            go_quiet (fail)
            go_wp2_with fail
            refine (HC.out _ (HA.out.is.drewN _) (pw_below_drewN HA.out.bel _)).mono ?_; rintro e w5 ⟨rfl, i5, b5, k5⟩
            have H5 : Hid (BlAt w0 w w5 g s0_0 n) := ⟨i5, b5, KeepBut.trans (keep_drewN HA.out.keep _) k5 (.inl rfl)⟩
            clear i5 b5 k5 c0 c1 f0 f1 z1 z2
            go_wp2_with fail
            rw [Exit.noGoto_normal]
            go_end0
            exact ⟨rfl, HS.out ▸ H5.out.is, H5.out.bel, H5.out.keep⟩
        · have h45' := beq_eq_false_iff_ne.2 h45
          have hs := skip_none s0_0 n hlt HBL.out (fun h => h45 (by rw [h.1]; rfl))
          have HS := Lib.hid (hs.symm.trans HN.out)
          clear hs h45
          go_wp2_with fail
          go_quiet (fail)
          go_wp2_with fail
          go_quiet (fail)
          go_wp2_with fail
          rw [Exit.noGoto_normal]
          go_end0
          exact ⟨rfl, HS.out ▸ HA.out.is.drewN _, pw_below_drewN HA.out.bel _, keep_drewN HA.out.keep _⟩
    · have HS := Lib.hid ((skip_end false s0_0 n (by omega)) ▸ HN.out)
      have z1 : ((n : Int) < (s0_0.size : Int)) = False := eq_false (by omega)
      have z2 : decide ((n : Int) < (s0_0.size : Int)) = false := decide_eq_false (by omega)
      go_wp2_with fail
      go_quiet (fail)
      go_wp2_with fail
      rw [Exit.noGoto_normal]
      go_end0
      exact ⟨rfl, HS.out ▸ HA.out.is.drewN _, pw_below_drewN HA.out.bel _, keep_drewN HA.out.keep _⟩

/-! ### lex_small: function 29 -/
def lex_small.f (a0 : Int) : Option (Bool) := if a0 ≥ 97 then (some (decide (a0 ≤ 122))) else (some false)
set_option maxHeartbeats 8000000 in
set_option maxRecDepth 100000 in
theorem lex_small.calls (a0 : Int) (r : Bool) (w : World) (h : lex_small.f a0 = some r) :
    Calls Try.prog 29 #[.int .u8 a0] w fun e w' => e = .returned (.bool r) ∧ Drawn0 w w' := by
  have H : (if a0 ≥ 97 then (some (decide (a0 ≤ 122))) else (some false)) = some r := h
  clear h
  by_cases c2 : a0 ≥ 97
  · rw [if_pos c2] at H
    have c2b0 : decide (97 ≤ a0) = true := decide_eq_true c2
    clear c2
    obtain rfl := Option.some.inj H
    go_enter Try.func29, Try.ntmps29
    go_wp2
    go_ret
    exact ⟨by first | rfl | (simp; done) | (simp [*]; done), by repeat (first | exact Drawn0.refl _ | apply Drawn0.step)⟩
  · rw [if_neg c2] at H
    have c2b0 : decide (97 ≤ a0) = false := decide_eq_false c2
    clear c2
    obtain rfl := Option.some.inj H
    go_enter Try.func29, Try.ntmps29
    go_wp2
    go_ret
    exact ⟨by first | rfl | (simp; done) | (simp [*]; done), by repeat (first | exact Drawn0.refl _ | apply Drawn0.step)⟩

/-! ### lex_large: function 33 -/
def lex_large.f (a0 : Int) : Option (Bool) := if a0 ≥ 65 then (some (decide (a0 ≤ 90))) else (some false)
set_option maxHeartbeats 8000000 in
set_option maxRecDepth 100000 in
theorem lex_large.calls (a0 : Int) (r : Bool) (w : World) (h : lex_large.f a0 = some r) :
    Calls Try.prog 33 #[.int .u8 a0] w fun e w' => e = .returned (.bool r) ∧ Drawn0 w w' := by
  have H : (if a0 ≥ 65 then (some (decide (a0 ≤ 90))) else (some false)) = some r := h
  clear h
  by_cases c2 : a0 ≥ 65
  · rw [if_pos c2] at H
    have c2b0 : decide (65 ≤ a0) = true := decide_eq_true c2
    clear c2
    obtain rfl := Option.some.inj H
    go_enter Try.func33, Try.ntmps33
    go_wp2
    go_ret
    exact ⟨by first | rfl | (simp; done) | (simp [*]; done), by repeat (first | exact Drawn0.refl _ | apply Drawn0.step)⟩
  · rw [if_neg c2] at H
    have c2b0 : decide (65 ≤ a0) = false := decide_eq_false c2
    clear c2
    obtain rfl := Option.some.inj H
    go_enter Try.func33, Try.ntmps33
    go_wp2
    go_ret
    exact ⟨by first | rfl | (simp; done) | (simp [*]; done), by repeat (first | exact Drawn0.refl _ | apply Drawn0.step)⟩

/-! ### lex_digit: function 34 -/
def lex_digit.f (a0 : Int) : Option (Bool) := if a0 ≥ 48 then (some (decide (a0 ≤ 57))) else (some false)
set_option maxHeartbeats 8000000 in
set_option maxRecDepth 100000 in
theorem lex_digit.calls (a0 : Int) (r : Bool) (w : World) (h : lex_digit.f a0 = some r) :
    Calls Try.prog 34 #[.int .u8 a0] w fun e w' => e = .returned (.bool r) ∧ Drawn0 w w' := by
  have H : (if a0 ≥ 48 then (some (decide (a0 ≤ 57))) else (some false)) = some r := h
  clear h
  by_cases c2 : a0 ≥ 48
  · rw [if_pos c2] at H
    have c2b0 : decide (48 ≤ a0) = true := decide_eq_true c2
    clear c2
    obtain rfl := Option.some.inj H
    go_enter Try.func34, Try.ntmps34
    go_wp2
    go_ret
    exact ⟨by first | rfl | (simp; done) | (simp [*]; done), by repeat (first | exact Drawn0.refl _ | apply Drawn0.step)⟩
  · rw [if_neg c2] at H
    have c2b0 : decide (48 ≤ a0) = false := decide_eq_false c2
    clear c2
    obtain rfl := Option.some.inj H
    go_enter Try.func34, Try.ntmps34
    go_wp2
    go_ret
    exact ⟨by first | rfl | (simp; done) | (simp [*]; done), by repeat (first | exact Drawn0.refl _ | apply Drawn0.step)⟩

/-! ### lex_inside: function 31 -/
def lex_inside.f (a0 : Int) : Option (Bool) := (lex_digit.f a0).bind fun t101 => (if t101 = true then (some true) else ((lex_small.f a0).bind fun t102 => (if t102 = true then (some true) else ((lex_large.f a0).bind fun t103 => (if t103 = true then (some true) else (some (a0 == 95)))))))
set_option maxHeartbeats 8000000 in
set_option maxRecDepth 100000 in
theorem lex_inside.calls (a0 : Int) (r : Bool) (w : World) (h : lex_inside.f a0 = some r) :
    Calls Try.prog 31 #[.int .u8 a0] w fun e w' => e = .returned (.bool r) ∧ Drawn0 w w' := by
  have H : ((lex_digit.f a0).bind fun t101 => (if t101 = true then (some true) else ((lex_small.f a0).bind fun t102 => (if t102 = true then (some true) else ((lex_large.f a0).bind fun t103 => (if t103 = true then (some true) else (some (a0 == 95)))))))) = some r := h
  clear h
  replace H := Option.bind_eq_some_iff.mp H
  obtain ⟨t101, A20, H⟩ := H
  replace H : (if t101 = true then (some true) else ((lex_small.f a0).bind fun t102 => (if t102 = true then (some true) else ((lex_large.f a0).bind fun t103 => (if t103 = true then (some true) else (some (a0 == 95))))))) = some r := H
  have A2 := Aside0.mk A20
  clear A20
  by_cases c3 : t101 = true
  · subst c3
    have H1 : (some true) = some r := by rw [if_pos rfl] at H; exact H
    clear H
    have H := H1
    clear H1
    obtain rfl := Option.some.inj H
    go_enter Try.func31, Try.ntmps31
    go_wp2_with (first | ((with_reducible refine gate_callee (f := 34) rfl ?_); refine goesL_ (some 4) rfl rfl Try.func34 (by kernel_rfl) rfl #[.int .u8 a0] rfl (by (try simp only [List.map_toArray, List.map_cons, List.map_nil]); first | done | rfl | (simp only [List.length_drop, List.length_take]; rfl)) ?_; (with_reducible refine (lex_digit.calls a0 true _ A2.out).mono ?_); rintro e w' ⟨rfl, ⟨nd, rfl⟩⟩; refine ⟨_, rfl, ?_⟩))
    go_ret
    exact ⟨by first | rfl | (simp; done) | (simp [*]; done), by repeat (first | exact Drawn0.refl _ | apply Drawn0.step)⟩
  · replace c3 := Bool.eq_false_iff.mpr c3
    subst c3
    have H1 : ((lex_small.f a0).bind fun t102 => (if t102 = true then (some true) else ((lex_large.f a0).bind fun t103 => (if t103 = true then (some true) else (some (a0 == 95)))))) = some r := by rw [if_neg (show ¬ (false = true) by decide)] at H; exact H
    clear H
    have H := H1
    clear H1
    replace H := Option.bind_eq_some_iff.mp H
    obtain ⟨t102, A40, H⟩ := H
    replace H : (if t102 = true then (some true) else ((lex_large.f a0).bind fun t103 => (if t103 = true then (some true) else (some (a0 == 95))))) = some r := H
    have A4 := Aside0.mk A40
    clear A40
    by_cases c5 : t102 = true
    · subst c5
      have H1 : (some true) = some r := by rw [if_pos rfl] at H; exact H
      clear H
      have H := H1
      clear H1
      obtain rfl := Option.some.inj H
      go_enter Try.func31, Try.ntmps31
      go_wp2_with (first | ((with_reducible refine gate_callee (f := 34) rfl ?_); refine goesL_ (some 4) rfl rfl Try.func34 (by kernel_rfl) rfl #[.int .u8 a0] rfl (by (try simp only [List.map_toArray, List.map_cons, List.map_nil]); first | done | rfl | (simp only [List.length_drop, List.length_take]; rfl)) ?_; (with_reducible refine (lex_digit.calls a0 false _ A2.out).mono ?_); rintro e w' ⟨rfl, ⟨nd, rfl⟩⟩; refine ⟨_, rfl, ?_⟩) | (go_at_call 29; (with_reducible refine (lex_small.calls a0 true _ A4.out).mono ?_); rintro e w' ⟨rfl, ⟨nd, rfl⟩⟩))
      go_ret
      exact ⟨by first | rfl | (simp; done) | (simp [*]; done), by repeat (first | exact Drawn0.refl _ | apply Drawn0.step)⟩
    · replace c5 := Bool.eq_false_iff.mpr c5
      subst c5
      have H1 : ((lex_large.f a0).bind fun t103 => (if t103 = true then (some true) else (some (a0 == 95)))) = some r := by rw [if_neg (show ¬ (false = true) by decide)] at H; exact H
      clear H
      have H := H1
      clear H1
      replace H := Option.bind_eq_some_iff.mp H
      obtain ⟨t103, A60, H⟩ := H
      replace H : (if t103 = true then (some true) else (some (a0 == 95))) = some r := H
      have A6 := Aside0.mk A60
      clear A60
      by_cases c7 : t103 = true
      · subst c7
        have H1 : (some true) = some r := by rw [if_pos rfl] at H; exact H
        clear H
        have H := H1
        clear H1
        obtain rfl := Option.some.inj H
        go_enter Try.func31, Try.ntmps31
        go_wp2_with (first | ((with_reducible refine gate_callee (f := 34) rfl ?_); refine goesL_ (some 4) rfl rfl Try.func34 (by kernel_rfl) rfl #[.int .u8 a0] rfl (by (try simp only [List.map_toArray, List.map_cons, List.map_nil]); first | done | rfl | (simp only [List.length_drop, List.length_take]; rfl)) ?_; (with_reducible refine (lex_digit.calls a0 false _ A2.out).mono ?_); rintro e w' ⟨rfl, ⟨nd, rfl⟩⟩; refine ⟨_, rfl, ?_⟩) | (go_at_call 29; (with_reducible refine (lex_small.calls a0 false _ A4.out).mono ?_); rintro e w' ⟨rfl, ⟨nd, rfl⟩⟩) | (go_at_call 33; (with_reducible refine (lex_large.calls a0 true _ A6.out).mono ?_); rintro e w' ⟨rfl, ⟨nd, rfl⟩⟩))
        go_ret
        exact ⟨by first | rfl | (simp; done) | (simp [*]; done), by repeat (first | exact Drawn0.refl _ | apply Drawn0.step)⟩
      · replace c7 := Bool.eq_false_iff.mpr c7
        subst c7
        have H1 : (some (a0 == 95)) = some r := by rw [if_neg (show ¬ (false = true) by decide)] at H; exact H
        clear H
        have H := H1
        clear H1
        obtain rfl := Option.some.inj H
        go_enter Try.func31, Try.ntmps31
        go_wp2_with (first | ((with_reducible refine gate_callee (f := 34) rfl ?_); refine goesL_ (some 4) rfl rfl Try.func34 (by kernel_rfl) rfl #[.int .u8 a0] rfl (by (try simp only [List.map_toArray, List.map_cons, List.map_nil]); first | done | rfl | (simp only [List.length_drop, List.length_take]; rfl)) ?_; (with_reducible refine (lex_digit.calls a0 false _ A2.out).mono ?_); rintro e w' ⟨rfl, ⟨nd, rfl⟩⟩; refine ⟨_, rfl, ?_⟩) | (go_at_call 29; (with_reducible refine (lex_small.calls a0 false _ A4.out).mono ?_); rintro e w' ⟨rfl, ⟨nd, rfl⟩⟩) | (go_at_call 33; (with_reducible refine (lex_large.calls a0 false _ A6.out).mono ?_); rintro e w' ⟨rfl, ⟨nd, rfl⟩⟩))
        go_ret
        exact ⟨by first | rfl | (simp; done) | (simp [*]; done), by repeat (first | exact Drawn0.refl _ | apply Drawn0.step)⟩

/-! ### lex_reserved: function 32 -/
def lex_reserved.f (a0 : ByteArray) : Option (Bool) := if a0.toList = ([108, 101, 116] : List UInt8) then (some true) else (if a0.toList = ([105, 110] : List UInt8) then (some true) else (if a0.toList = ([99, 97, 115, 101] : List UInt8) then (some true) else (if a0.toList = ([111, 102] : List UInt8) then (some true) else (if a0.toList = ([100, 97, 116, 97] : List UInt8) then (some true) else (some false)))))
set_option maxHeartbeats 8000000 in
set_option maxRecDepth 100000 in
theorem lex_reserved.calls (a0 : ByteArray) (r : Bool) (w : World) (h : lex_reserved.f a0 = some r) :
    Calls Try.prog 32 #[.string a0] w fun e w' => e = .returned (.bool r) ∧ Drawn0 w w' := by
  have H : (if a0.toList = ([108, 101, 116] : List UInt8) then (some true) else (if a0.toList = ([105, 110] : List UInt8) then (some true) else (if a0.toList = ([99, 97, 115, 101] : List UInt8) then (some true) else (if a0.toList = ([111, 102] : List UInt8) then (some true) else (if a0.toList = ([100, 97, 116, 97] : List UInt8) then (some true) else (some false)))))) = some r := h
  clear h
  by_cases c2 : a0.toList = ([108, 101, 116] : List UInt8)
  · rw [if_pos c2] at H
    have c2b0 : (a0.toList == ([108, 101, 116] : List UInt8)) = true := beq_iff_eq.mpr c2
    have c2b1 : (a0.toList != ([108, 101, 116] : List UInt8)) = false := bne_eq_false_iff_eq.mpr c2
    clear c2
    obtain rfl := Option.some.inj H
    go_enter Try.func32, Try.ntmps32
    go_wp2
    go_ret
    exact ⟨by first | rfl | (simp; done) | (simp [*]; done), by repeat (first | exact Drawn0.refl _ | apply Drawn0.step)⟩
  · rw [if_neg c2] at H
    have c2b0 : (a0.toList == ([108, 101, 116] : List UInt8)) = false := beq_eq_false_iff_ne.mpr c2
    have c2b1 : (a0.toList != ([108, 101, 116] : List UInt8)) = true := bne_iff_ne.mpr c2
    by_cases c3 : a0.toList = ([105, 110] : List UInt8)
    · rw [if_pos c3] at H
      have c3b0 : (a0.toList == ([105, 110] : List UInt8)) = true := beq_iff_eq.mpr c3
      have c3b1 : (a0.toList != ([105, 110] : List UInt8)) = false := bne_eq_false_iff_eq.mpr c3
      clear c3
      obtain rfl := Option.some.inj H
      go_enter Try.func32, Try.ntmps32
      go_wp2
      go_ret
      exact ⟨by first | rfl | (simp; done) | (simp [*]; done), by repeat (first | exact Drawn0.refl _ | apply Drawn0.step)⟩
    · rw [if_neg c3] at H
      have c3b0 : (a0.toList == ([105, 110] : List UInt8)) = false := beq_eq_false_iff_ne.mpr c3
      have c3b1 : (a0.toList != ([105, 110] : List UInt8)) = true := bne_iff_ne.mpr c3
      by_cases c4 : a0.toList = ([99, 97, 115, 101] : List UInt8)
      · rw [if_pos c4] at H
        have c4b0 : (a0.toList == ([99, 97, 115, 101] : List UInt8)) = true := beq_iff_eq.mpr c4
        have c4b1 : (a0.toList != ([99, 97, 115, 101] : List UInt8)) = false := bne_eq_false_iff_eq.mpr c4
        clear c4
        obtain rfl := Option.some.inj H
        go_enter Try.func32, Try.ntmps32
        go_wp2
        go_ret
        exact ⟨by first | rfl | (simp; done) | (simp [*]; done), by repeat (first | exact Drawn0.refl _ | apply Drawn0.step)⟩
      · rw [if_neg c4] at H
        have c4b0 : (a0.toList == ([99, 97, 115, 101] : List UInt8)) = false := beq_eq_false_iff_ne.mpr c4
        have c4b1 : (a0.toList != ([99, 97, 115, 101] : List UInt8)) = true := bne_iff_ne.mpr c4
        by_cases c5 : a0.toList = ([111, 102] : List UInt8)
        · rw [if_pos c5] at H
          have c5b0 : (a0.toList == ([111, 102] : List UInt8)) = true := beq_iff_eq.mpr c5
          have c5b1 : (a0.toList != ([111, 102] : List UInt8)) = false := bne_eq_false_iff_eq.mpr c5
          clear c5
          obtain rfl := Option.some.inj H
          go_enter Try.func32, Try.ntmps32
          go_wp2
          go_ret
          exact ⟨by first | rfl | (simp; done) | (simp [*]; done), by repeat (first | exact Drawn0.refl _ | apply Drawn0.step)⟩
        · rw [if_neg c5] at H
          have c5b0 : (a0.toList == ([111, 102] : List UInt8)) = false := beq_eq_false_iff_ne.mpr c5
          have c5b1 : (a0.toList != ([111, 102] : List UInt8)) = true := bne_iff_ne.mpr c5
          by_cases c6 : a0.toList = ([100, 97, 116, 97] : List UInt8)
          · rw [if_pos c6] at H
            have c6b0 : (a0.toList == ([100, 97, 116, 97] : List UInt8)) = true := beq_iff_eq.mpr c6
            have c6b1 : (a0.toList != ([100, 97, 116, 97] : List UInt8)) = false := bne_eq_false_iff_eq.mpr c6
            clear c6
            obtain rfl := Option.some.inj H
            go_enter Try.func32, Try.ntmps32
            go_wp2
            go_ret
            exact ⟨by first | rfl | (simp; done) | (simp [*]; done), by repeat (first | exact Drawn0.refl _ | apply Drawn0.step)⟩
          · rw [if_neg c6] at H
            have c6b0 : (a0.toList == ([100, 97, 116, 97] : List UInt8)) = false := beq_eq_false_iff_ne.mpr c6
            have c6b1 : (a0.toList != ([100, 97, 116, 97] : List UInt8)) = true := bne_iff_ne.mpr c6
            obtain rfl := Option.some.inj H
            go_enter Try.func32, Try.ntmps32
            go_wp2
            go_ret
            exact ⟨by first | rfl | (simp; done) | (simp [*]; done), by repeat (first | exact Drawn0.refl _ | apply Drawn0.step)⟩

/-! ### lex_number: function 35; by hand -/
/-- The number that digits tell. -/
def digVal (l : List UInt8) : Nat := l.foldl (fun v c => 10 * v + (c.toNat - 48)) 0
def numOf (minus : Bool) (v : Nat) : Int × Bool := if 9223372036854775808 < v then (0, false) else if minus then (-(v : Int), true) else if v = 9223372036854775808 then (-9223372036854775808, false) else ((v : Int), true)
def lex_number.f (a0 : ByteArray) : Option (Int × Bool) :=
  if 0 < a0.size ∧ a0.size ≤ 140737488351232 then
    if a0.data.toList.head? = some 45 then (if (a0.data.toList.drop 1).all digB = true then some (numOf true (digVal (a0.data.toList.drop 1))) else none)
    else if a0.data.toList.all digB = true then some (numOf false (digVal a0.data.toList)) else none
  else none
theorem digVal_snoc (l : List UInt8) (c : UInt8) : digVal (l ++ [c]) = 10 * digVal l + (c.toNat - 48) := by simp [digVal]
theorem digVal_mono (l : List UInt8) (c : List UInt8) : digVal l ≤ digVal (l ++ c) := by
  unfold digVal
  rw [List.foldl_append]
  generalize List.foldl _ 0 l = v
  induction c generalizing v with
  | nil => exact Nat.le_refl _
  | cons x c ih => exact Nat.le_trans (by omega) (ih (10 * v + (x.toNat - 48)))
theorem digVal_take (l : List UInt8) (k : Nat) : digVal (l.take k) ≤ digVal l := by
  have := digVal_mono (l.take k) (l.drop k)
  rwa [List.take_append_drop] at this
theorem digVal_succ (s : ByteArray) (k : Nat) (h : k < s.size) : digVal (s.data.toList.take (k + 1)) = 10 * digVal (s.data.toList.take k) + (s[k].toNat - 48) := by
  rw [List.take_succ_eq_append_getElem (by simpa using h), digVal_snoc]
  simp [ByteArray.getElem_eq_getElem_data]
theorem num_over (v d : Int) (h0 : 0 ≤ d) (h9 : d ≤ 9) (hv : 0 ≤ v) : (-9223372036854775808 + d).tdiv 10 ≤ -v ↔ 10 * v + d ≤ 9223372036854775808 := by
  have e : (-9223372036854775808 + d).tdiv 10 = -((9223372036854775808 - d) / 10) := by
    rw [show -9223372036854775808 + d = -(9223372036854775808 - d) by omega, Int.neg_tdiv, Int.tdiv_eq_ediv_of_nonneg (by omega)]
  rw [e]
  omega
theorem num_next (v d : Int) (h0 : 0 ≤ d) (h9 : d ≤ 9) (hv : 0 ≤ v) (h : 10 * v + d ≤ 9223372036854775808) : wrap64 (wrap64 (-v * 10) - d) = -(10 * v + d) := by
  have e : wrap64 (-v * 10) = -(10 * v) := by unfold wrap64; omega
  rw [e]
  unfold wrap64
  omega
theorem num_end (v : Nat) (h : v ≤ 9223372036854775808) : (wrap64 (v : Int), (-(v : Int)) != -9223372036854775808) = numOf false v := by
  unfold numOf
  rw [if_neg (by omega)]
  by_cases e : v = 9223372036854775808
  · have e2 : ((-(v : Int)) != -9223372036854775808) = false := by simp [e]
    have e3 : wrap64 (v : Int) = -9223372036854775808 := by unfold wrap64; omega
    rw [e2, e3]
    simp [e]
  · have e2 : ((-(v : Int)) != -9223372036854775808) = true := by rw [bne_iff_ne]; omega
    have e3 : wrap64 (v : Int) = v := by unfold wrap64; omega
    rw [e2, e3]
    simp [e]
theorem num_endm (v : Nat) (h : v ≤ 9223372036854775808) : (-(v : Int), true) = numOf true v := by
  unfold numOf
  rw [if_neg (by omega)]
  rfl
theorem head_at0 (s : ByteArray) (h : 0 < s.size) : s.data.toList.head? = some s[0] := by
  rw [List.head?_eq_getElem?, List.getElem?_eq_getElem (by simpa using h)]
  simp [ByteArray.getElem_eq_getElem_data]
/-- Where the loop is gone through. -/
theorem number_dig (s : ByteArray) (hd : s.data.toList.all digB = true) (k : Nat) (h : k < s.size) : 48 ≤ (s[k].toNat : Int) ∧ (s[k].toNat : Int) ≤ 57 := by
  rw [List.all_eq_true] at hd
  have := hd s[k] (by rw [ByteArray.getElem_eq_getElem_data]; exact Array.getElem_mem_toList _)
  unfold digB at this
  simp [UInt8.le_iff_toNat_le] at this
  omega
set_option maxHeartbeats 1000000 in
set_option maxRecDepth 100000 in
theorem number_plain (a0 : ByteArray) (w : World) (hs : 0 < a0.size) (hz : a0.size ≤ 140737488351232) (h0 : ¬ (a0[0].toNat : Int) = 45) (hd : a0.data.toList.all digB = true) :
    Calls Try.prog 35 #[.string a0] w fun e w' => e = .returned (.tuple #[.int .i64 (numOf false (digVal a0.data.toList)).1, .bool (numOf false (digVal a0.data.toList)).2]) ∧ Drawn0 w w' := by
  have e0 := beq_eq_false_iff_ne.2 h0
  have z0 : decide (0 < a0.size) = true := decide_eq_true hs
  have hxz : a0.size ≤ 140737488351232 := by exact hz
  have HD := Lib.hid hd
  clear h0 hd
  go_enter Try.func35, Try.ntmps35
  go_wp2_with fail
  go_loop [5, 6, 7, 16] (fun n c6 c7 i => ∃ k : Nat, k ≤ a0.size ∧ i = .int .i64 k ∧ n = .int .i64 (-(digVal (a0.data.toList.take k) : Int)) ∧ Hid (digVal (a0.data.toList.take k) ≤ 9223372036854775808)) (fun _ _ _ i => a0.size - (intOf i).toNat)
  case atStart => exact ⟨0, by omega, rfl, rfl, Lib.hid (by simp [digVal])⟩
  case round =>
    obtain ⟨k, hk, rfl, rfl, HV⟩ := hrel
    by_cases hlt : k < a0.size
    · obtain ⟨d1, d2⟩ := number_dig a0 HD.out k hlt
      have HS := Lib.hid (digVal_succ a0 k hlt)
      have HT := Lib.hid (digVal_take a0.data.toList (k + 1))
      generalize digVal (a0.data.toList.take k) = v at HV HS ⊢
      go_wp2_with fail
      · rename_i h
        have hh : ¬ ((-9223372036854775808 + ((a0[k].toNat : Int) - 48)).tdiv 10 ≤ -(v : Int)) := by omega
        rw [num_over _ _ (by omega) (by omega) (by omega)] at hh
        go_ret2
        have hb : 9223372036854775808 < digVal a0.data.toList := by have := HS.out; have := HT.out; omega
        refine ⟨?_, Drawn0.refl _⟩
        unfold numOf
        rw [if_pos hb]
        rfl
      · rename_i h
        rw [num_over _ _ (by omega) (by omega) (by omega)] at h
        have hn := num_next (v : Int) ((a0[k].toNat : Int) - 48) (by omega) (by omega) (by omega) h
        refine ⟨⟨k + 1, by omega, by simp, ?_, Lib.hid ?_⟩, by simp [intOf]; omega⟩
        · rw [hn, HS.out]
          congr 2
          omega
        · rw [HS.out]; omega
    · obtain rfl : k = a0.size := by omega
      rw [show a0.data.toList.take a0.size = a0.data.toList from List.take_of_length_le (by simp)] at HV ⊢
      go_wp2_with fail
      go_ret2
      refine ⟨?_, Drawn0.refl _⟩
      exact congrArg (fun p : Int × Bool => Ending.returned (.tuple #[.int .i64 p.1, .bool p.2])) (num_end _ HV.out)
set_option maxHeartbeats 1000000 in
set_option maxRecDepth 100000 in
theorem number_minus (a0 : ByteArray) (x : ByteArray) (hx : a0.extract 1 a0.size = x) (w : World) (hs : 0 < a0.size) (hz : a0.size ≤ 140737488351232) (h0 :  (a0[0].toNat : Int) = 45) (hd : x.data.toList.all digB = true) :
    Calls Try.prog 35 #[.string a0] w fun e w' => e = .returned (.tuple #[.int .i64 (numOf true (digVal x.data.toList)).1, .bool (numOf true (digVal x.data.toList)).2]) ∧ Drawn0 w w' := by
  have e0 := beq_iff_eq.2 h0
  have z0 : decide (0 < a0.size) = true := decide_eq_true hs
  have hxz : x.size ≤ 140737488351232 := by rw [← hx]; simp; omega
  have z1 : ((1 : Int) ≤ (a0.size : Int)) = True := eq_true (by omega)
  have hx1 : a0.size - 1 = x.size := by rw [← hx]; simp
  have HX1 := Lib.hid hx1
  have HX := Lib.hid hx
  clear hx1 hx
  have HD := Lib.hid hd
  clear h0 hd
  go_enter Try.func35, Try.ntmps35
  go_wp2_with fail
  rw [HX.out, HX1.out]
  go_loop [5, 6, 7, 16] (fun n c6 c7 i => ∃ k : Nat, k ≤ x.size ∧ i = .int .i64 k ∧ n = .int .i64 (-(digVal (x.data.toList.take k) : Int)) ∧ Hid (digVal (x.data.toList.take k) ≤ 9223372036854775808)) (fun _ _ _ i => x.size - (intOf i).toNat)
  case atStart => exact ⟨0, by omega, rfl, rfl, Lib.hid (by simp [digVal])⟩
  case round =>
    obtain ⟨k, hk, rfl, rfl, HV⟩ := hrel
    by_cases hlt : k < x.size
    · obtain ⟨d1, d2⟩ := number_dig x HD.out k hlt
      have HS := Lib.hid (digVal_succ x k hlt)
      have HT := Lib.hid (digVal_take x.data.toList (k + 1))
      generalize digVal (x.data.toList.take k) = v at HV HS ⊢
      go_wp2_with fail
      · rename_i h
        have hh : ¬ ((-9223372036854775808 + ((x[k].toNat : Int) - 48)).tdiv 10 ≤ -(v : Int)) := by omega
        rw [num_over _ _ (by omega) (by omega) (by omega)] at hh
        go_ret2
        have hb : 9223372036854775808 < digVal x.data.toList := by have := HS.out; have := HT.out; omega
        refine ⟨?_, Drawn0.refl _⟩
        unfold numOf
        rw [if_pos hb]
        rfl
      · rename_i h
        rw [num_over _ _ (by omega) (by omega) (by omega)] at h
        have hn := num_next (v : Int) ((x[k].toNat : Int) - 48) (by omega) (by omega) (by omega) h
        refine ⟨⟨k + 1, by omega, by simp, ?_, Lib.hid ?_⟩, by simp [intOf]; omega⟩
        · rw [hn, HS.out]
          congr 2
          omega
        · rw [HS.out]; omega
    · obtain rfl : k = x.size := by omega
      rw [show x.data.toList.take x.size = x.data.toList from List.take_of_length_le (by simp)] at HV ⊢
      go_wp2_with fail
      go_ret2
      refine ⟨?_, Drawn0.refl _⟩
      exact congrArg (fun p : Int × Bool => Ending.returned (.tuple #[.int .i64 p.1, .bool p.2])) (num_endm _ HV.out)
theorem lex_number.calls (a0 : ByteArray) (r1 : Int) (r2 : Bool) (w : World) (h : lex_number.f a0 = some (r1, r2)) :
    Calls Try.prog 35 #[.string a0] w fun e w' => e = .returned (.tuple #[.int .i64 r1, .bool r2]) ∧ Drawn0 w w' := by
  unfold lex_number.f at h
  split at h
  case isFalse => cases h
  rename_i hc
  obtain ⟨hs, hz⟩ := hc
  have hh : a0.data.toList.head? = some a0[0] := by
    have := head_at0 a0 hs
    exact this
  rw [hh] at h
  split at h
  · rename_i hm
    split at h
    case isFalse => cases h
    rename_i hd
    simp only [Option.some.injEq] at h
    have e : a0[0] = 45 := by simpa using hm
    have e2 : (a0.extract 1 a0.size).data.toList = a0.data.toList.drop 1 := by
      simp
      rw [List.take_of_length_le (by simp)]
    rw [← e2] at hd h
    have := number_minus a0 _ rfl w hs hz (by rw [e]; rfl) hd
    rw [h] at this
    exact this
  · rename_i hm
    split at h
    case isFalse => cases h
    rename_i hd
    simp only [Option.some.injEq] at h
    have := number_plain a0 w hs hz (fun e => hm (by rw [Option.some.injEq, ← UInt8.toNat_inj]; show a0[0].toNat = 45; omega)) hd
    rw [h] at this
    exact this

end Go.Proofs.Ytjmcoekdgiomiaa.PLexBlanks
