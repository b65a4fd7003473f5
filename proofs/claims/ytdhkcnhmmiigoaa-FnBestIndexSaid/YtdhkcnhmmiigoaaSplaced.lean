/- Parts of the proof, laid together: contracts and lemmas; no conditions beyond those written. -/
import Derived.Test.YtdhkcnhmmiigoaaQx0
import Derived.Test.YtdhkcnhmmiigoaaQx2
import Derived.Test.YtdhkcnhmmiigoaaSokrows
import Derived.Test.YtdhkcnhmmiigoaaQx1
import Derived.Test.YtdhkcnhmmiigoaaSupto
import Derived.Test.YtdhkcnhmmiigoaaSsetval
import Derived.Test.YtdhkcnhmmiigoaaSlead
import Derived.Test.YtdhkcnhmmiigoaaSlu
import Derived.Test.YtdhkcnhmmiigoaaSred
namespace Go.Proofs.Ytdhkcnhmmiigoaa.Q
open Go.RowKit Go.Proofs.YtdhkcnhmmiigoaaW.PrintWords Go.Proofs.YtdhkcnhmmiigoaaW.PrintLast Go.Proofs.YtdhkcnhmmiigoaaW.PrintMore
attribute [local go_sem] max2_int min2_int max_two min_two max_three min_three max_four min_four   -- for this text's walks alone
set_option linter.unusedVariables false
set_option linter.unusedSimpArgs false
section
theorem impl_isPlaced_f (l : List Int) (p : Int) (U : List Int) : impl_isPlaced.f l p U = some (okRows l && (isIn 1 4 p && okUses U)) := by
  unfold impl_isPlaced.f
  rw [impl_ValidIndex_f, impl_inRange_f, impl_ValidUses_f]
  cases okRows l <;> cases isIn 1 4 p <;> cases okUses U <;> rfl
end
section
theorem among_ok (l : List Int) (hb : Bytes l) (a : Nat) (sd : Int) (b : List Int) (hn : 1 ≤ b.length) (h2 : b.length ≤ 200) (ha : a ≤ 1000000000000) :
    ∃ (x : Int) (a' : Nat) (s : Int), spec_l00Src_among.f l (a : Int) sd b = some (x, (a' : Int), s) ∧ x ∈ b ∧ a' ≤ a + 1 := by
  unfold spec_l00Src_among.f
  obtain ⟨x, a', s, e, hx, ha'⟩ := pick_ok l hb a sd b.length hn h2 ha
  refine ⟨b[x], a', s, ?_, List.getElem_mem hx, ha'⟩
  rw [e, Option.bind_some]
  rw [if_pos (by omega), if_pos (by omega), rd_lt b x hx]
end
section
def fit1 (rows : List Nat) (row i : Nat) : Bool := decide (row &&& ldN (rows.getD i 0) = 0) && (decide (rows.getD i 0 &&& ldN row = 0) && (decide (i + 1 < rows.length) || decide (row < rows.getD i 0)))
def fitsTo (rows : List Nat) (row j : Nat) : Bool := (List.range j).all (fit1 rows row)
theorem fitsTo_succ (rows : List Nat) (row j : Nat) : fitsTo rows row (j + 1) = (fitsTo rows row j && fit1 rows row j) := by unfold fitsTo; rw [List.range_succ, List.all_append]; simp
def fitsR (rows : List Nat) (row : Nat) : Bool := fitsTo rows row rows.length
/-- All reduced rows that begin with some, with d more. -/
def rAll : Nat → List Nat → List (List Nat)
  | 0, rows => [rows]
  | d + 1, rows => (List.range' 1 63).flatMap fun r => if fitsR rows r = true then rAll d (rows ++ [r]) else []
/-- Those whose next row is among the first n numbers. -/
def rTo (d : Nat) (rows : List Nat) (n : Nat) : List (List Nat) := (List.range' 1 n).flatMap fun r => if fitsR rows r = true then rAll d (rows ++ [r]) else []
theorem rTo_succ (d : Nat) (rows : List Nat) (n : Nat) : rTo d rows (n + 1) = rTo d rows n ++ (if fitsR rows (n + 1) = true then rAll d (rows ++ [n + 1]) else []) := by
  unfold rTo
  rw [List.range'_1_concat, List.flatMap_append, Nat.add_comm 1 n]
  simp
theorem rTo_all (d : Nat) (rows : List Nat) : rTo d rows 63 = rAll (d + 1) rows := rfl
def bstep (f : List Nat → Int) (s : List Nat × Int) (x : List Nat) : List Nat × Int := if s.2 < 0 ∨ f x < s.2 then (x, f x) else s
def bfold (f : List Nat → Int) (s : List Nat × Int) (l : List (List Nat)) : List Nat × Int := l.foldl (bstep f) s
theorem bfold_append (f : List Nat → Int) (s : List Nat × Int) (l m : List (List Nat)) : bfold f s (l ++ m) = bfold f (bfold f s l) m := List.foldl_append
/-- The misses of rows. -/
def misI (p : Int) (U : List Int) (x : List Nat) : Int := (misN (nI x) p U U.length : Int)
end
section
theorem drawOk_l0 (l : List Int) (hb : Bytes l) (d : Nat) : ∀ (rows : List Int) (a : Nat) (sd : Int), (∀ x ∈ rows, 0 ≤ x ∧ x ≤ 63) → rows.length + d ≤ 3 → a + 4 * d ≤ 1000000 →
    ∃ (r : List Int) (a' : Nat) (s : Int), Ev (fun k => spec_l06DrawOk.l0 k (d : Int) l (a : Int) sd rows) (r, (a' : Int), s) ∧ (∀ x ∈ r, 0 ≤ x ∧ x ≤ 63) ∧ r.length ≤ 3 := by
  induction d with
  | zero =>
    intro rows a sd hr hl ha
    refine ⟨rows, a, sd, Ev.succ ?_, hr, by omega⟩
    simp only [spec_l06DrawOk.l0]
    exact Ev.ite_neg (by omega) (Ev.now _)
  | succ d ih =>
    intro rows a sd hr hl ha
    obtain ⟨x, a1, s1, e1, hx, h1⟩ := pick_ok l hb a sd 64 (by omega) (by omega) (by omega)
    obtain ⟨b, a2, s2, e2, h2⟩ := one_ok l hb a1 s1 2 (by omega) (by omega) (by omega)
    have hd : wrap64 (((d + 1 : Nat) : Int) - 1) = (d : Int) := by rw [wrap64_id (by omega) (by omega)]; omega
    have step : ∀ (y : Int) (a' : Nat) (s : Int), 0 ≤ y ∧ y ≤ 63 → a' ≤ a + 4 → ∃ (r : List Int) (a'' : Nat) (s' : Int), Ev (fun k => spec_l06DrawOk.l0 k (d : Int) l (a' : Int) s (rows ++ [y])) (r, (a'' : Int), s') ∧ (∀ x ∈ r, 0 ≤ x ∧ x ≤ 63) ∧ r.length ≤ 3 := by
      intro y a' s hy ha'
      refine ih (rows ++ [y]) a' s (fun z hz => ?_) (by rw [List.length_append, List.length_singleton]; omega) (by omega)
      rcases List.mem_append.1 hz with hz | hz
      · exact hr z hz
      · rw [List.mem_singleton.1 hz]; exact hy
    have behind : ∀ (y : Int) (a3 : Nat) (s3 : Int), 0 ≤ y ∧ y ≤ 63 → a3 ≤ a + 3 → ∃ (r : List Int) (a' : Nat) (s : Int), (∀ x ∈ r, 0 ≤ x ∧ x ≤ 63) ∧ r.length ≤ 3 ∧
        Ev (fun k => if (rows.length : Int) > 0 then ((spec_l00Src_one.f l (a3 : Int) s3 6).bind fun bt => (if bt.1 = true then (if 0 < (rows.length : Int) then (if rows.length < 17592186044416 then (spec_l06DrawOk.l0 k (wrap64 (((d + 1 : Nat) : Int) - 1)) l bt.2.1 bt.2.2 (rows ++ [rd rows 0])) else (none)) else (none)) else (if rows.length < 17592186044416 then (spec_l06DrawOk.l0 k (wrap64 (((d + 1 : Nat) : Int) - 1)) l bt.2.1 bt.2.2 (rows ++ [y])) else (none)))) else (if rows.length < 17592186044416 then (spec_l06DrawOk.l0 k (wrap64 (((d + 1 : Nat) : Int) - 1)) l (a3 : Int) s3 (rows ++ [y])) else (none))) (r, (a' : Int), s) := by
      intro y a3 s3 hy h3
      rw [hd]
      by_cases h0 : 0 < rows.length
      · obtain ⟨b, a4, s4, e4, h4⟩ := one_ok l hb a3 s3 6 (by omega) (by omega) (by omega)
        have hm : 0 ≤ rd rows 0 ∧ rd rows 0 ≤ 63 := by
          have := rd_lt rows 0 h0
          rw [show ((0 : Nat) : Int) = 0 from rfl] at this
          rw [this]; exact hr _ (List.getElem_mem h0)
        cases b with
        | true =>
          obtain ⟨r, a', s, e, q1, q2⟩ := step (rd rows 0) a4 s4 hm (by omega)
          exact ⟨r, a', s, q1, q2, Ev.ite_pos (by omega) (Ev.cbind e4 (Ev.ite_pos rfl (Ev.ite_pos (by omega) (Ev.ite_pos (by omega) e))))⟩
        | false =>
          obtain ⟨r, a', s, e, q1, q2⟩ := step y a4 s4 hy (by omega)
          exact ⟨r, a', s, q1, q2, Ev.ite_pos (by omega) (Ev.cbind e4 (Ev.ite_neg (by simp) (Ev.ite_pos (by omega) e)))⟩
      · obtain ⟨r, a', s, e, q1, q2⟩ := step y a3 s3 hy (by omega)
        exact ⟨r, a', s, q1, q2, Ev.ite_neg (by omega) (Ev.ite_pos (by omega) e)⟩
    cases b with
    | true =>
      obtain ⟨y, a3, s3, e3, hy, h3⟩ := among_ok l hb a2 s2 [1, 2, 4, 8, 16, 32] (by simp) (by simp) (by omega)
      obtain ⟨r, a', s, q1, q2, e⟩ := behind y a3 s3 (by simp at hy; omega) (by omega)
      refine ⟨r, a', s, Ev.succ ?_, q1, q2⟩
      simp only [spec_l06DrawOk.l0]
      exact Ev.ite_pos (by omega) (Ev.cbind e1 (Ev.cbind e2 (Ev.ite_pos rfl (Ev.cbind e3 e))))
    | false =>
      obtain ⟨r, a', s, q1, q2, e⟩ := behind (x : Int) a2 s2 (by omega) (by omega)
      refine ⟨r, a', s, Ev.succ ?_, q1, q2⟩
      simp only [spec_l06DrawOk.l0]
      exact Ev.ite_pos (by omega) (Ev.cbind e1 (Ev.cbind e2 (Ev.ite_neg (by simp) e)))
theorem ev_R8Index (l : List Int) (hb : Bytes l) : ∃ r, Ev (fun k => spec_R8Index.f k l) r ∧ okRows r = true := by
  unfold spec_R8Index.f spec_l06DrawOk.f
  obtain ⟨n, a1, s1, e1, hn, h1⟩ := pick_ok l hb 0 0 4 (by omega) (by omega) (by omega)
  obtain ⟨r, a', s, e, q1, q2⟩ := drawOk_l0 l hb n [] a1 s1 (by simp) (by simp; omega) (by omega)
  exact ⟨r, Ev.cbind (a := (l, 0, 0)) rfl (Ev.bind (a := (r, (a' : Int), s)) (Ev.cbind e1 e) (Ev.now _)), (okRows_iff r).2 ⟨q1, q2⟩⟩
end
end Go.Proofs.Ytdhkcnhmmiigoaa.Q
