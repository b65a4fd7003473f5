/- Parts of the proof, laid together: contracts and lemmas; no conditions beyond those written. -/
import Derived.Test.YtdhkcnhmmiigoaaQx0
import Derived.Lib.SlicesCompact
namespace Go.Proofs.Ytdhkcnhmmiigoaa.Q
open Go.RowKit Go.Proofs.YtdhkcnhmmiigoaaW.PrintWords Go.Proofs.YtdhkcnhmmiigoaaW.PrintLast Go.Proofs.YtdhkcnhmmiigoaaW.PrintMore
attribute [local go_sem] max2_int min2_int max_two min_two max_three min_three max_four min_four   -- for this text's walks alone
set_option linter.unusedVariables false
set_option linter.unusedSimpArgs false
section
def sortL (l : List Int) : List Int := l.mergeSort fun x y => decide (x ≤ y)
end
section
theorem run_rowsField (v : Value) (w : World) : (Sem.run Try.prog (Instr.field 26 (Value.agg #[v]) 0) w) = .ok v w := by kernel_rfl
end
section
def areBytes (l : List Int) : Bool := l.all fun n => decide (0 ≤ n) && decide (n ≤ 255)
/-- What a law over two texts of bytes comes to. -/
def lawOf2 (l0 l1 : List Int) : Option Bool := if (areBytes l0 && areBytes l1) = true then some true else none
theorem lawOf2_some {l0 l1 : List Int} {r : Bool} (h : lawOf2 l0 l1 = some r) : r = true ∧ (∀ y ∈ l0, 0 ≤ y ∧ y ≤ 255) ∧ ∀ y ∈ l1, 0 ≤ y ∧ y ≤ 255 := by
  unfold lawOf2 at h
  by_cases hb : (areBytes l0 && areBytes l1) = true
  · rw [if_pos hb] at h
    obtain ⟨h0, h1⟩ := Bool.and_eq_true_iff.1 hb
    refine ⟨(Option.some.inj h).symm, fun y hy => ?_, fun y hy => ?_⟩
    · have := List.all_eq_true.1 h0 y hy; simpa using this
    · have := List.all_eq_true.1 h1 y hy; simpa using this
  · rw [if_neg hb] at h; exact absurd h (by simp)
theorem lawOf2_of {l0 l1 : List Int} (h0 : ∀ y ∈ l0, (Lit.int .u8 y).wf = true) (h1 : ∀ y ∈ l1, (Lit.int .u8 y).wf = true) : lawOf2 l0 l1 = some true := by
  have key : ∀ l : List Int, (∀ y ∈ l, (Lit.int .u8 y).wf = true) → areBytes l = true := by
    intro l h
    refine List.all_eq_true.2 fun y hy => ?_
    have := h y hy
    simp [Lit.wf] at this
    have e1 : IntKind.u8.min = 0 := by decide
    have e2 : IntKind.u8.max = 255 := by decide
    simp; omega
  unfold lawOf2
  rw [key l0 h0, key l1 h1]; rfl
end
section
/-- The numbers of a list, sorted, each once. -/
def setL (l : List Int) : List Int := Go.Lib.compact (sortL l)
theorem compact_len (l : List Int) : (Go.Lib.compact l).length ≤ l.length := by
  unfold Go.Lib.compact Go.Lib.compactUpTo
  rw [List.length_map]
  have := List.length_filter_le (Go.Lib.keeps l.toArray) (List.range l.length)
  simpa using this
end
section
/-- What has come when k rounds are over. -/
def upto (f : Nat → Int) (k : Nat) : List Int := (List.range k).map f
theorem upto_succ (f : Nat → Int) (k : Nat) : upto f (k + 1) = upto f k ++ [f k] := by simp [upto, List.range_succ]
theorem upto_length (f : Nat → Int) (k : Nat) : (upto f k).length = k := by simp [upto]
theorem upto_all (zs : List Int) : upto (fun j => zs[j]?.getD 0) zs.length = zs := by
  apply List.ext_getElem
  · simp [upto]
  · intro i h1 h2
    simp [upto, h2]
end
section
theorem R_of_own {w : World} {base : Nat} {e : TypeId} {v : Value} {xs : List Int} (h : w.ownsRow base e 1 v xs.length (xs.map (Value.int .i64))) : Kd.R (Kd.int .i64) e w base (fun _ => True) v xs := by
  refine ⟨fun _ _ => trivial, xs.map (Value.int .i64), h, by show _ = xs.length * 1; simp, fun j p hj => ?_⟩
  show ((xs.map (Value.int .i64)).drop (j * 1)).take 1 = [Value.int .i64 p]
  rw [Nat.mul_one]
  have hl : j < xs.length := (List.getElem?_eq_some_iff.1 hj).1
  have hp : xs[j] = p := (List.getElem?_eq_some_iff.1 hj).2
  rw [List.drop_eq_getElem_cons (by simpa using hl)]
  simp [hp]
theorem own_of_R {w : World} {base : Nat} {e : TypeId} {ok : Nat → Prop} {v : Value} {xs : List Int} (h : Kd.R (Kd.int .i64) e w base ok v xs) : w.ownsRow base e 1 v xs.length (xs.map (Value.int .i64)) := by
  obtain ⟨_, inner, ho, hr⟩ := h
  have : inner = xs.map (Value.int .i64) := by
    apply List.ext_getElem
    · have h0 : inner.length = xs.length * 1 := hr.1
      simpa using h0
    · intro j h1 h2
      have hj : j < xs.length := by simpa using h2
      have hq := hr.2 j xs[j] (List.getElem?_eq_getElem hj)
      replace hq : (inner.drop (j * 1)).take 1 = [Value.int .i64 xs[j]] := hq
      rw [Nat.mul_one, List.drop_eq_getElem_cons h1, List.take_succ_cons, List.take_zero] at hq
      rw [List.getElem_map]
      exact (List.cons.inj hq).1
  rw [← this]
  exact ho
theorem C_of_own {w : World} {base n : Nat} {e : TypeId} {v : Value} {xs : List Int} (h : w.ownsRow base e 1 v xs.length (xs.map (Value.int .i64))) : ∃ A c, v = .slice A xs.length c ∧ xs.length ≤ c ∧ Kd.C (Kd.int .i64) w A xs.length xs := Kd.R_reads (R_of_own h)
end
end Go.Proofs.Ytdhkcnhmmiigoaa.Q
