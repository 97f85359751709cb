/- Every call of a stack is answered as the document says: the law StackDoes answers true for every number of words and every list of calls. No condition. -/
import Derived.Test.YtedkackmccnkfaaXt
set_option linter.unusedVariables false
set_option linter.unusedSimpArgs false
namespace Go.Proofs.Ytedkackmccnkfaa.LawDoes
open Go.RowKit Go.Shelf
open Fr Fs Ft Ar Sk Pu Pv Fa Po Nw Bk Fz Fy Fx Mq Mj Mk LawMaps Xs Xp Xo Xd Xm Xt
/-- A call that came in. -/
structure Ac where
  k : Int
  n : Int
  f : Fm
structure AIn (w : World) (A : Option Addr) (acs : List Ac) : Prop where
  max : acs.length ≤ 9223372036854775807
  cells : 0 < acs.length → ∃ b off, A = some ⟨b, off, none⟩ ∧ b < w.heap.size ∧ ∀ i, i < acs.length → ∃ (x : Ac) (p : Option Addr) (c : Nat), Sl w p x.f.ps ∧ x.f.ps.length ≤ 17592186044416 ∧
    w.cell? ⟨b, off + i * 6, none⟩ = some (.int .i64 x.k) ∧ w.cell? ⟨b, off + i * 6 + 1, none⟩ = some (.int .i64 x.n) ∧ w.cell? ⟨b, off + i * 6 + 2, none⟩ = some (.int .i64 x.f.k) ∧ w.cell? ⟨b, off + i * 6 + 3, none⟩ = some (.int .i64 x.f.a) ∧ w.cell? ⟨b, off + i * 6 + 4, none⟩ = some (.int .i64 x.f.b) ∧ w.cell? ⟨b, off + i * 6 + 5, none⟩ = some (.slice p x.f.ps.length c)
theorem do_any {W w : World} {F : Nat → Obj → Prop} {g ga r y wd : Nat} {L : List Fm} {inn : List In} (h : B2 W w F g ga r y wd L inn) (he : inn.map (·.1) = L) (hw : wd ≤ 65536) (k n fk fa fb : Int) (p : Option Addr) (c : Nat) (ps : List Int) (S : Sl W p ps) (hl : ps.length ≤ 17592186044416) :
    Calls Try.prog 22 #[.pointer (some ⟨g, 0, none⟩), .pointer (some ⟨y, 0, none⟩), actV k n fk fa fb p ps.length c] w fun e w' => e = .returned (.bool true) ∧ ∃ L' inn', B2 W w' F g ga r y wd L' inn' ∧ inn'.map (·.1) = L' := by
  by_cases h01 : k = 0 ∨ k = 1
  · exact do_push h he hw k n fk fa fb p c ps S hl h01
  · by_cases h2 : k = 2
    · subst h2; exact do_pop h he hw n fk fa fb p c ps.length
    · exact do_map h he hw k n fk fa fb p c ps.length ⟨fun e => h01 (.inl e), fun e => h01 (.inr e), h2⟩
set_option maxHeartbeats 4000000 in
set_option maxRecDepth 100000 in
theorem law (W : World) (words : Int) (hwd : 0 ≤ words ∧ words ≤ 65535) (A : Option Addr) (cap : Nat) (acs : List Ac) (R : AIn W A acs) :
    Calls Try.prog 6 #[.int .u16 words, .slice A acs.length cap] W fun e W' => e = .returned (.bool true) ∧ Below W.heap.size W W' := by
  obtain ⟨m, hm⟩ : ∃ m : Nat, (m : Int) = words % 300 := ⟨(words % 300).toNat, by omega⟩
  have hm2 : m < 300 := by omega
  have MD := made_it W (m + 1) (by omega) (by omega)
  rw [show (((m + 1 : Nat)) : Int) = words % 300 + 1 by omega] at MD
  have MD := Lib.hid MD
  rename_i MD2
  have hmx := R.max
  have HR := Lib.hid R
  have HMM := Lib.hid hm
  obtain ⟨h0, h1⟩ := hwd
  clear MD2 hm R
  go_enter Try.func6, Try.ntmps6
  go_wp2_with fail
  refine MD.out.mono ?_; rintro e w1 ⟨g, ga, r, rfl, hold, K1, b1⟩
  have S1 : Hid (B2 W (w1.alloc (.cells #[.int .i64 (words % 300 + 1), .slice none 0 0] 52 (0, 0))) (fun _ _ => False) g ga r w1.heap.size (m + 1) [] []) := by
    have bA := Kit.allocB (Below.refl w1.heap.size w1) (.cells #[.int .i64 (words % 300 + 1), .slice none 0 0] 52 (0, 0))
    refine ⟨⟨_, Pu.Stk.keepB K1 bA⟩, ⟨.slice none 0 0, ?_, World.ownsRow_nil _ _ _ _, by simp, List.Pairwise.nil, by have := b1.size; simp; omega, b1.size⟩, ⟨hold.1, hold.2.2⟩, Kit.allocB b1 _, fun _ _ f => f.elim⟩
    rw [show (((m + 1 : Nat)) : Int) = words % 300 + 1 by have := HMM.out; omega]
    exact Kit.new_blk _ _
  clear K1 b1 hold MD
  go_wp2_with fail
  refine (Aw.awake_it _).mono ?_; rintro e w2 ⟨rfl, b2⟩
  have S2 := Lib.hid (S1.out.below b2)
  obtain ⟨y, hy⟩ : ∃ y, y = w1.heap.size := ⟨_, rfl⟩
  rw [← hy] at S2 ⊢
  clear b2 S1 hy
  go_wp2_with fail
  go_loopg [9] 100 (fun k c wr => ∃ j : Nat, (j ≤ acs.length ∧ j ≤ 100 ∧ k = 100 - j) ∧ c = .int .i64 j ∧ Hid (∃ L inn, B2 W wr (fun _ _ => False) g ga r y (m + 1) L inn ∧ inn.map (·.1) = L))
  case atStart => exact ⟨0, ⟨by omega, by omega, rfl⟩, rfl, _, _, S2.out, rfl⟩
  case round =>
    obtain ⟨j, ⟨hj, hj2, rfl⟩, rfl, H⟩ := hrel
    obtain ⟨L, inn, S, he⟩ := H.out
    have HS := Lib.hid S
    have HE := Lib.hid he
    clear S he
    by_cases hlt : j < acs.length ∧ j < 100
    · obtain ⟨l1, l2⟩ := hlt
      obtain ⟨bb, off, rfl, hb, hc⟩ := HR.out.cells (by omega)
      obtain ⟨⟨k, n, ⟨fk, fa, fb, ps⟩⟩, p, c, T1, hln, c0, c1, c2, c3, c4, c5⟩ := hc j l1
      simp only at T1 hln c0 c1 c2 c3 c4 c5
      have BL := Lib.hid HS.out.bel
      replace c0 := (BL.out.cell (p := ⟨bb, off + j * 6, none⟩) hb).trans c0
      replace c1 := (BL.out.cell (p := ⟨bb, off + j * 6 + 1, none⟩) hb).trans c1
      replace c2 := (BL.out.cell (p := ⟨bb, off + j * 6 + 2, none⟩) hb).trans c2
      replace c3 := (BL.out.cell (p := ⟨bb, off + j * 6 + 3, none⟩) hb).trans c3
      replace c4 := (BL.out.cell (p := ⟨bb, off + j * 6 + 4, none⟩) hb).trans c4
      replace c5 := (BL.out.cell (p := ⟨bb, off + j * 6 + 5, none⟩) hb).trans c5
      have DO := do_any HS.out HE.out (by omega) k n fk fa fb p c ps T1 hln
      unfold actV at DO
      have DO := Lib.hid DO
      rename_i DO2
      have lj : (j : Int) < acs.length := by omega
      have lj0 : (0 : Int) ≤ j := by omega
      clear DO2 hc T1
      go_wp2_with fail
      refine DO.out.mono ?_; rintro e w3 ⟨rfl, L', inn', S3, he3⟩
      have TO := Lib.hid (told_it S3 he3 (by omega))
      have HS3 := Lib.hid S3
      have HE3 := Lib.hid he3
      clear S3 he3 c0 c1 c2 c3 c4 c5
      go_wp2_with fail
      refine TO.out.mono ?_; rintro e w4 ⟨rfl, b4⟩
      have S4 := Lib.hid (HS3.out.below b4)
      clear b4
      go_wp2_with fail
      go_roundg (100 - (j + 1))
      case measure => omega
      case rel => exact ⟨j + 1, ⟨by omega, by omega, rfl⟩, by simp, _, _, S4.out, HE3.out⟩
    · have hc : (j < acs.length ∧ ¬ j < 100) ∨ ¬ j < acs.length := by omega
      rcases hc with ⟨l1, l2⟩ | l1
      all_goals
        go_wp2_with fail
        go_ret
        exact ⟨rfl, HS.out.bel⟩
end Go.Proofs.Ytedkackmccnkfaa.LawDoes
