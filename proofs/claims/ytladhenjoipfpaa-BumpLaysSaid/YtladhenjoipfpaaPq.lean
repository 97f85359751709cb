/- The laws' helper pairs, over what kept tells. No condition. -/
import Derived.Test.YtladhenjoipfpaaKq
import Derived.Test.YtladhenjoipfpaaNn
set_option linter.unusedVariables false
set_option linter.unusedSimpArgs false
namespace Go.Proofs.Ytladhenjoipfpaa.Pq
open Go.RowKit Go.Shelf
open Pl Rn Rs Ov Tw Kp Rc K1 Lf Pr Kq
set_option maxRecDepth 100000 in
set_option maxHeartbeats 2000000 in
theorem pairs_it (w : World) (B p q : Nat) (va vb : Value) (rs : List (Nat × Nat)) (hrs : rs.length ≤ 4096) (T : Two w B p q va vb rs) :
    Calls Try.prog 18 #[.func (.func 50) #[] #[.pointer (some ⟨p, 0, none⟩), .pointer (some ⟨q, 0, none⟩)]] w fun e w' =>
      ∃ v2 u2, e = .returned (.tuple #[v2, u2]) ∧ Below w.heap.size w w' ∧ w'.ownsRow w.heap.size 3 1 v2 rs.length (fstV rs) ∧ w'.ownsRow w.heap.size 3 1 u2 rs.length (sndV rs) ∧ (v2.ownBlock = none ∨ v2.ownBlock ≠ u2.ownBlock) := by
  have hnil := Nn.hnil
  have a1 := Kit.keep_alloc (Kit.new_blk w (.cells #[.slice none 0 0] 43)) (.cells #[.slice none 0 0] 43)
  have a2 := Kit.new_blk2 w (.cells #[.slice none 0 0] 43) (.cells #[.slice none 0 0] 43)
  have bl : Below w.heap.size w ((w.alloc (.cells #[.slice none 0 0] 43)).alloc (.cells #[.slice none 0 0] 43)) := Kit.allocB (Kit.allocB (Below.refl _ _) _) _
  have sz : ((w.alloc (.cells #[.slice none 0 0] 43)).alloc (.cells #[.slice none 0 0] 43)).heap.size = w.heap.size + 2 := by simp
  have G : Gr ((w.alloc (.cells #[.slice none 0 0] 43)).alloc (.cells #[.slice none 0 0] 43)) (w.heap.size + 2) w.heap.size (w.heap.size + 1) (.slice none 0 0) (.slice none 0 0) [] :=
    ⟨a1, a2, World.ownsRow_nil _ _ _ _, World.ownsRow_nil _ _ _ _, .inl rfl, by omega, by omega, by omega, by omega⟩
  have KP := Lib.hid (kept1_pairs w _ B p q va vb rs hrs T bl (w.heap.size + 2) w.heap.size (w.heap.size + 1) ⟨by omega, by omega⟩ ⟨_, _, G⟩)
  clear a1 a2 bl sz G T
  go_enter Try.func18, Try.ntmps18
  go_wp2_with fail
  refine KP.out.mono ?_
  rintro e w1 ⟨⟨vv, rfl⟩, hB, hF, v2, u2, G⟩
  have c1 := Kit.cells1 G.one
  have c2 := Kit.cells1 G.two
  have o1 := Lib.hid (own_mono G.fst (show w.heap.size ≤ w.heap.size + 2 by omega))
  have o2 := Lib.hid (own_mono G.snd (show w.heap.size ≤ w.heap.size + 2 by omega))
  have HB := Lib.hid hB
  have HN := Lib.hid G.far
  have e1 : ∃ k m c, v2 = .slice k m c := by
    rcases G.fst.2 with ⟨e, _⟩ | ⟨g, cap, cur, e, _⟩ <;> exact ⟨_, _, _, e⟩
  have e2 : ∃ k m c, u2 = .slice k m c := by
    rcases G.snd.2 with ⟨e, _⟩ | ⟨g, cap, cur, e, _⟩ <;> exact ⟨_, _, _, e⟩
  obtain ⟨k1, m1, d1, rfl⟩ := e1
  obtain ⟨k2, m2, d2, rfl⟩ := e2
  clear G hB hF KP
  go_wp2_with fail
  go_quiet (fail)
  go_wp2_with fail
  go_ret2
  exact ⟨_, _, rfl, Kit.drawB HB.out _, own_other o1.out (grown_drewN _ _) (fun k e => by cases e), own_other o2.out (grown_drewN _ _) (fun k e => by cases e), HN.out⟩
end Go.Proofs.Ytladhenjoipfpaa.Pq
