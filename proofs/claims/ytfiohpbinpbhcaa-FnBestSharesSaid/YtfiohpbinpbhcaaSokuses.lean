/- Parts of the proof, laid together: contracts and lemmas; no conditions beyond those written. -/
import Derived.Test.YtfiohpbinpbhcaaQx0
import Derived.Test.YtfiohpbinpbhcaaSown
import Derived.Test.YtfiohpbinpbhcaaScrv
import Derived.Test.YtfiohpbinpbhcaaSr8sum
import Derived.Test.YtfiohpbinpbhcaaHallIn
import Derived.Test.YtfiohpbinpbhcaaQx2
import Derived.Test.YtfiohpbinpbhcaaQx1
import Derived.Test.YtfiohpbinpbhcaaSbase
import Derived.Test.YtfiohpbinpbhcaaSdraw
namespace Go.Proofs.Ytfiohpbinpbhcaa.Q
open Go.RowKit Go.Proofs.YtfiohpbinpbhcaaW.PrintWords Go.Proofs.YtfiohpbinpbhcaaW.PrintLast Go.Proofs.YtfiohpbinpbhcaaW.PrintMore
attribute [local go_sem] max2_int min2_int max_two min_two max_three min_three max_four min_four   -- for this text's walks alone
set_option linter.unusedVariables false
set_option linter.unusedSimpArgs false
section
def okUses (l : List Int) : Bool := (l.all okAddr) && decide (l.length ≤ 60)
theorem okUses_iff (l : List Int) : okUses l = true ↔ (∀ x ∈ l, 0 ≤ x ∧ x ≤ 63) ∧ l.length ≤ 60 := by
  simp [okUses, okAddr]
end
section
def okShare (s : Int) : Bool := decide (0 ≤ s) && decide (s ≤ 60)
def shareTo (P : List (List Int)) (S : List Int) : Nat → Int
  | 0 => 0
  | i + 1 => wrap64 (shareTo P S i + rd (crv (dists (rd_L2 P (i : Int))) ((rd S (i : Int)).toNat + 1)) (rd S (i : Int)))
end
section
theorem impl_ValidUses_f (l : List Int) : impl_ValidUses.f l = some (okUses l) := by
  unfold impl_ValidUses.f impl_allIn.f okUses
  by_cases h : l.length ≤ 60
  · rw [if_pos (by omega)]
    show some (l.all okAddr) = some (l.all okAddr && decide (l.length ≤ 60))
    simp [h]
  · rw [if_neg (by omega)]
    simp [h]
end
section
theorem among_ok (l : List Int) (hb : Bytes l) (a : Nat) (sd : Int) (b : List Int) (hn : 1 ≤ b.length) (h2 : b.length ≤ 200) (ha : a ≤ 1000000000000) :
    ∃ (x : Int) (a' : Nat) (s : Int), spec_l00Src_among.f l (a : Int) sd b = some (x, (a' : Int), s) ∧ x ∈ b ∧ a' ≤ a + 1 := by
  unfold spec_l00Src_among.f
  obtain ⟨x, a', s, e, hx, ha'⟩ := pick_ok l hb a sd b.length hn h2 ha
  refine ⟨b[x], a', s, ?_, List.getElem_mem hx, ha'⟩
  rw [e, Option.bind_some]
  rw [if_pos (by omega), if_pos (by omega), rd_lt b x hx]
end
section
theorem near_l0 (l : List Int) (hb : Bytes l) (base step : Int) (h0 : 0 ≤ base ∧ base ≤ 3) (h1 : 1 ≤ step ∧ step ≤ 16) (d : Nat) : ∀ (out : List Int) (a : Nat) (sd : Int), (∀ x ∈ out, 0 ≤ x ∧ x ≤ 63) → out.length + d ≤ 13 → a + d ≤ 1000000 →
    ∃ r, Ev (fun k => spec_R8Near.l0 k base step out (d : Int) l (a : Int) sd) r ∧ (∀ x ∈ r, 0 ≤ x ∧ x ≤ 63) ∧ r.length ≤ 13 := by
  induction d with
  | zero =>
    intro out a sd ho hl ha
    refine ⟨out, Ev.succ ?_, ho, by omega⟩
    simp only [spec_R8Near.l0]
    exact Ev.ite_neg (by omega) (Ev.now _)
  | succ d ih =>
    intro out a sd ho hl ha
    obtain ⟨x, a1, s1, e1, hx, ha1⟩ := pick_ok l hb a sd 5 (by omega) (by omega) (by omega)
    have hd : wrap64 (((d + 1 : Nat) : Int) - 1) = (d : Int) := by rw [wrap64_id (by omega) (by omega)]; omega
    have hm : 0 ≤ step * (x : Int) ∧ step * (x : Int) ≤ 64 := by
      refine ⟨Int.mul_nonneg (by omega) (by omega), ?_⟩
      have : step * (x : Int) ≤ 16 * 4 := Int.mul_le_mul h1.2 (by omega) (by omega) (by omega)
      omega
    have hw : wrap64 (base + wrap64 (step * (x : Int))) = base + step * (x : Int) := by rw [wrap64_id (x := step * (x : Int)) (by omega) (by omega), wrap64_id (by omega) (by omega)]
    have t0 := Int.tmod_nonneg (64 : Int) (show 0 ≤ base + step * (x : Int) by omega)
    have t1 := Int.tmod_lt_of_pos (base + step * (x : Int)) (show (0 : Int) < 64 by omega)
    obtain ⟨r, e, q1, q2⟩ := ih (out ++ [Int.tmod (base + step * (x : Int)) 64]) a1 s1 (fun z hz => by
      rcases List.mem_append.1 hz with hz | hz
      · exact ho z hz
      · rw [List.mem_singleton.1 hz]; omega) (by rw [List.length_append, List.length_singleton]; omega) (by omega)
    refine ⟨r, Ev.succ ?_, q1, q2⟩
    simp only [spec_R8Near.l0]
    refine Ev.ite_pos (by omega) (Ev.cbind e1 (Ev.ite_pos (by omega) ?_))
    rw [hd, hw]
    exact e
theorem ev_R8Near (l : List Int) (hb : Bytes l) : ∃ r, Ev (fun k => spec_R8Near.f k l) r ∧ okUses r = true ∧ r.length ≤ 13 := by
  unfold spec_R8Near.f
  obtain ⟨x, a1, s1, e1, hx, h1⟩ := pick_ok l hb 0 0 4 (by omega) (by omega) (by omega)
  obtain ⟨y, a2, s2, e2, hy, h2⟩ := among_ok l hb a1 s1 [1, 2, 4, 8, 9, 16] (by simp) (by simp) (by omega)
  obtain ⟨n, a3, s3, e3, hn, h3⟩ := pick_ok l hb a2 s2 14 (by omega) (by omega) (by omega)
  obtain ⟨r, e, q1, q2⟩ := near_l0 l hb (x : Int) y (by omega) (by simp at hy; omega) n [] a3 s3 (by simp) (by simp; omega) (by omega)
  exact ⟨r, Ev.cbind (a := (l, 0, 0)) rfl (Ev.cbind e1 (Ev.cbind e2 (Ev.cbind e3 e))), (okUses_iff r).2 ⟨q1, by omega⟩, q2⟩
end
end Go.Proofs.Ytfiohpbinpbhcaa.Q
