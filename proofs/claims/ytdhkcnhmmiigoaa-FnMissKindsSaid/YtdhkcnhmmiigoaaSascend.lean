/- Parts of the proof, laid together: contracts and lemmas; no conditions beyond those written. -/
import Derived.Test.YtdhkcnhmmiigoaaQx0
import Derived.Test.YtdhkcnhmmiigoaaQx3
import Derived.Test.YtdhkcnhmmiigoaaSbase
import Derived.Test.YtdhkcnhmmiigoaaSsortl
import Derived.Test.YtdhkcnhmmiigoaaSdraw
import Derived.Test.YtdhkcnhmmiigoaaSokrows
import Derived.Test.YtdhkcnhmmiigoaaSred
import Derived.Test.YtdhkcnhmmiigoaaQx1
import Derived.Test.YtdhkcnhmmiigoaaHallIn
import Derived.Test.YtdhkcnhmmiigoaaQx2
import Derived.Test.YtdhkcnhmmiigoaaSamong
namespace Go.Proofs.Ytdhkcnhmmiigoaa.Q
open Go.RowKit Go.Proofs.YtdhkcnhmmiigoaaW.PrintWords Go.Proofs.YtdhkcnhmmiigoaaW.PrintLast Go.Proofs.YtdhkcnhmmiigoaaW.PrintMore
attribute [local go_sem] max2_int min2_int max_two min_two max_three min_three max_four min_four   -- for this text's walks alone
set_option linter.unusedVariables false
set_option linter.unusedSimpArgs false
section
theorem ev_ascending (n : Nat) (hn : n ≤ 1000000) : Ev (fun k => impl_ascending.f k (n : Int)) (upto (fun j => (j : Int)) n) := by
  unfold impl_ascending.f
  refine Ev.up (fun i k => impl_ascending.l0 k (upto (fun j => (j : Int)) i) (n : Int) (i : Int)) n _ ?_ ?_
  · apply Ev.succ
    simp only [impl_ascending.l0]
    exact Ev.ite_neg (by omega) (Ev.now _)
  · intro i hi ih
    have hl := upto_length (fun j => (j : Int)) i
    rw [upto_succ] at ih
    apply Ev.succ
    simp only [impl_ascending.l0]
    refine Ev.ite_pos (by omega) (Ev.ite_pos (by omega) ?_)
    rw [wrap64_succ (by omega)]
    exact ih
theorem upto64_mem {x : Int} (h : x ∈ upto (fun j => (j : Int)) 64) : 0 ≤ x ∧ x ≤ 63 := by
  unfold upto at h
  obtain ⟨j, hj, rfl⟩ := List.mem_map.1 h
  have := List.mem_range.1 hj
  omega
end
section
def rankN (R : List Int) : Nat := (redN (R.map Int.toNat)).length
def aloneN (R : List Int) (p : Int) (U : List Int) : Nat := misN [] (p * 2 ^ rankN R) U U.length
def kindsOf (R : List Int) (p : Int) (U : List Int) : List Int := [((setL U).length : Int), wrap64 ((aloneN R p U : Int) - ((setL U).length : Int)), wrap64 ((misN R p U U.length : Int) - (aloneN R p U : Int))]
theorem okRows_nil : okRows [] = true := by decide
theorem rankN_le (R : List Int) (h : R.length ≤ 3) : rankN R ≤ 3 := by
  have := redN_len (R.map Int.toNat)
  rw [List.length_map] at this
  unfold rankN; omega
theorem shl_rank : ∀ (p : Fin 5) (r : Fin 4), wrap64 ((p.val : Int) * 2 ^ r.val) = (p.val : Int) * 2 ^ r.val := by decide +kernel
theorem shl_rank' {p : Int} {r : Nat} (h0 : 0 ≤ p) (h1 : p ≤ 4) (hr : r ≤ 3) : wrap64 (p * 2 ^ r) = p * 2 ^ r := by
  obtain ⟨n, rfl⟩ : ∃ n : Nat, p = (n : Int) := ⟨p.toNat, by omega⟩
  exact shl_rank ⟨n, by omega⟩ ⟨r, by omega⟩
end
section
theorem r8At_ok (l : List Int) (hb : Bytes l) (i n : Nat) (hn : 1 ≤ n) : ∃ x : Nat, laws_r8At.f l (i : Int) (n : Int) = some (x : Int) ∧ x < n := by
  unfold laws_r8At.f
  by_cases h1 : n ≤ 1
  · exact ⟨0, by rw [if_pos (by omega)]; rfl, by omega⟩
  · rw [if_neg (by omega)]
    by_cases h : i < l.length
    · have hr := hb _ (List.getElem_mem h)
      rw [if_neg (by omega), if_pos (by omega), if_pos (by omega), if_neg (by omega), rd_lt l i h, wrap64_id (by omega) (by omega)]
      have t0 := Int.tmod_nonneg (n : Int) hr.1
      have t1 := Int.tmod_lt_of_pos l[i] (show (0 : Int) < (n : Int) by omega)
      exact ⟨(Int.tmod l[i] (n : Int)).toNat, by rw [Int.toNat_of_nonneg t0], by omega⟩
    · exact ⟨0, by rw [if_pos (by omega)]; rfl, by omega⟩
theorem r8Long_no (l m : List Int) (h : ¬ laws_r8Long.f l m = some true) : laws_r8Long.f l m = some false ∧ l.length ≤ 48 ∧ m.length ≤ 48 := by
  unfold laws_r8Long.f at h ⊢
  by_cases h1 : (l.length : Int) > 48
  · rw [if_pos h1] at h; exact absurd rfl h
  · rw [if_neg h1] at h ⊢
    by_cases h2 : (m.length : Int) > 48
    · simp [h2] at h
    · exact ⟨by simp [h2], by omega, by omega⟩
end
section
theorem one_ok (l : List Int) (hb : Bytes l) (a : Nat) (sd : Int) (n : Nat) (hn : 1 ≤ n) (h2 : n ≤ 200) (ha : a ≤ 1000000000000) :
    ∃ (b : Bool) (a' : Nat) (s : Int), spec_l00Src_one.f l (a : Int) sd (n : Int) = some (b, (a' : Int), s) ∧ a' ≤ a + 1 := by
  unfold spec_l00Src_one.f
  obtain ⟨x, a', s, e, hx, ha'⟩ := pick_ok l hb a sd n hn h2 ha
  rw [e]
  exact ⟨_, a', s, rfl, ha'⟩
end
section
theorem impl_ValidUses_f (l : List Int) : impl_ValidUses.f l = some (okUses l) := by
  unfold impl_ValidUses.f impl_allIn.f okUses
  by_cases h : l.length ≤ 60
  · rw [if_pos (by omega)]
    show some (l.all okAddr) = some (l.all okAddr && decide (l.length ≤ 60))
    simp [h]
  · rw [if_neg (by omega)]
    simp [h]
end
end Go.Proofs.Ytdhkcnhmmiigoaa.Q
