/- Parts of the proof, laid together: contracts and lemmas; no conditions beyond those written. -/
import Derived.Test.YthaipkhgemachaaDoorQx0
import Derived.Test.YthaipkhgemachaaDoorQx1
import Derived.Test.YthaipkhgemachaaDoorSbase
namespace Go.Proofs.YthaipkhgemachaaDoor.Q
open Go.RowKit Go.Proofs.YthaipkhgemachaaDoorW.PrintWords Go.Proofs.YthaipkhgemachaaDoorW.PrintLast Go.Proofs.YthaipkhgemachaaDoorW.PrintMore
attribute [local go_sem] max2_int min2_int max_two min_two max_three min_three max_four min_four   -- for this text's walks alone
set_option linter.unusedVariables false
set_option linter.unusedSimpArgs false
section
theorem ev_eqJ (a b : List Int) (h : a.length ≤ 35184372088832) : Ev (fun k => laws_eqInt64S.f k a b) (decide (a = b)) := by
  unfold laws_eqInt64S.f
  by_cases hl : (a.length : Int) = (b.length : Int)
  · refine Ev.ite_pos hl ?_
    have hl' : a.length = b.length := by omega
    have key := Ev.down (fun i k => laws_eqInt64S.l0 k a b (i : Int)) a.length (fun i => decide (a.drop i = b.drop i)) ?_ ?_ 0 (Nat.zero_le _)
    · exact Ev.eq key (by simp)
    · apply Ev.succ
      simp only [laws_eqInt64S.l0]
      refine Ev.ite_neg (by omega) (Ev.eq (Ev.now _) ?_)
      simp [hl']
    · intro i hi ih
      apply Ev.succ
      simp only [laws_eqInt64S.l0]
      refine Ev.ite_pos (by omega) (Ev.ite_pos (by omega) (Ev.ite_pos (by omega) ?_))
      rw [drop_rd a i hi, drop_rd b i (by omega)]
      by_cases hx : rd a (i : Int) = rd b (i : Int)
      · refine Ev.ite_pos hx ?_
        rw [wrap64_succ (by omega)]
        refine Ev.eq ih ?_
        simp [hx]
      · exact Ev.ite_neg hx (Ev.eq (Ev.now _) (by simp [hx]))
  · refine Ev.ite_neg hl (Ev.eq (Ev.now _) ?_)
    have : a ≠ b := fun e => hl (by rw [e])
    simp [this]
theorem ev_eqJ_same (a : List Int) (h : a.length ≤ 35184372088832) : Ev (fun k => laws_eqInt64S.f k a a) true := Ev.eq (ev_eqJ a a h) (by simp)
end
section
/-- What has come when k rounds are over. -/
def upto (f : Nat → Int) (k : Nat) : List Int := (List.range k).map f
theorem upto_succ (f : Nat → Int) (k : Nat) : upto f (k + 1) = upto f k ++ [f k] := by simp [upto, List.range_succ]
theorem upto_length (f : Nat → Int) (k : Nat) : (upto f k).length = k := by simp [upto]
theorem upto_all (zs : List Int) : upto (fun j => zs[j]?.getD 0) zs.length = zs := by
  apply List.ext_getElem
  · simp [upto]
  · intro i h1 h2
    simp [upto, h2]
end
section
def impl_length_int64.f (l0 : List Int) : Option Int := impl_length_int64_25.f l0
theorem impl_length_int64.calls (A0 : Option Addr) (c0 : Nat) (l0 : List Int) (r : Int) (w : World) (hr0 : Kd.C (Kd.int .i64) w A0 l0.length l0) (hc0 : l0.length ≤ c0) (h : impl_length_int64.f l0 = some r) :
    Calls Tryd.prog 25 #[.slice A0 l0.length c0] w fun e w' => e = .returned (.int .i64 r) ∧ Drawn0 w w' := impl_length_int64_25.calls A0 c0 l0 r w hr0 hc0 h
end
end Go.Proofs.YthaipkhgemachaaDoor.Q
