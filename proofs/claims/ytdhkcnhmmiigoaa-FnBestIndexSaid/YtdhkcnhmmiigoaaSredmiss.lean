/- An index and its reduced one: the same kernel and misses; no conditions beyond those written. -/
import Derived.Test.YtdhkcnhmmiigoaaQx0
import Derived.Test.YtdhkcnhmmiigoaaSupto
import Derived.Test.YtdhkcnhmmiigoaaSspanl
import Derived.Test.YtdhkcnhmmiigoaaSlu
import Derived.Test.YtdhkcnhmmiigoaaSokrows
import Derived.Test.YtdhkcnhmmiigoaaSred
import Derived.Test.YtdhkcnhmmiigoaaSsetl
import Derived.Test.YtdhkcnhmmiigoaaSsetval
namespace Go.Proofs.Ytdhkcnhmmiigoaa.Q
open Go.RowKit Go.Proofs.YtdhkcnhmmiigoaaW.PrintWords Go.Proofs.YtdhkcnhmmiigoaaW.PrintLast Go.Proofs.YtdhkcnhmmiigoaaW.PrintMore
attribute [local go_sem] max2_int min2_int max_two min_two max_three min_three max_four min_four   -- for this text's walks alone
set_option linter.unusedVariables false
set_option linter.unusedSimpArgs false

def pz (n : Nat) : Bool := Nat.testBit 7608434000728254870 n
theorem pz_par : ∀ n : Fin 64, par (n.val : Int) = if pz n.val then 1 else 0 := by decide +kernel
theorem pz_xor : ∀ a b : Fin 64, pz (a.val ^^^ b.val) = (pz a.val != pz b.val) := by decide +kernel
theorem pz_zero : pz 0 = false := by decide +kernel
theorem bitsZ3 : ∀ p q r : Fin 2, (sv (r.val : Int) (sv (q.val : Int) (sv (p.val : Int) 0 0) 1) 2 = 0) ↔ ((p.val : Int) = 0 ∧ (q.val : Int) = 0 ∧ (r.val : Int) = 0) := by decide +kernel
theorem bitsZ2 : ∀ p q : Fin 2, (sv (q.val : Int) (sv (p.val : Int) 0 0) 1 = 0) ↔ ((p.val : Int) = 0 ∧ (q.val : Int) = 0) := by decide +kernel
theorem bitsZ1 : ∀ p : Fin 2, (sv (p.val : Int) 0 0 = 0) ↔ ((p.val : Int) = 0) := by decide +kernel
theorem rowBit_pz (rows : List Int) (a : Int) (i : Nat) (hm : 0 ≤ rd rows (i : Int) ∧ rd rows (i : Int) ≤ 63) (ha : 0 ≤ a ∧ a ≤ 63) : rowBit rows a i = 0 ↔ pz ((rd rows (i : Int)).toNat &&& a.toNat) = false := by
  unfold rowBit
  obtain ⟨r, hr⟩ : ∃ r, r = rd rows (i : Int) := ⟨_, rfl⟩
  rw [← hr] at hm ⊢
  obtain ⟨m, rfl⟩ := fin_of hm.1 hm.2
  obtain ⟨p, rfl⟩ := fin_of ha.1 ha.2
  have e1 := and_i64 m.val p.val m.isLt p.isLt
  rw [e1.1, Int.toNat_natCast, Int.toNat_natCast]
  have h := pz_par ⟨m.val &&& p.val, e1.2⟩
  simp only at h
  rw [h]
  cases pz (m.val &&& p.val) <;> simp
/-- The rows' common kernel. -/
def KZ (l : List Nat) (a : Nat) : Prop := ∀ r ∈ l, pz (r &&& a) = false
attribute [local irreducible] sv setVal rowBit par
theorem setVal_zero_iff (rows : List Int) (a : Int) (hl : rows.length ≤ 3) (hr : ∀ x ∈ rows, 0 ≤ x ∧ x ≤ 63) (ha : 0 ≤ a ∧ a ≤ 63) : setVal rows a = 0 ↔ KZ (rows.map Int.toNat) a.toNat := by
  have hm : ∀ i, i < rows.length → 0 ≤ rd rows (i : Int) ∧ rd rows (i : Int) ≤ 63 := fun i hi => by rw [rd_lt rows i hi]; exact hr _ (List.getElem_mem hi)
  have hz : ∀ i, i < rows.length → (rowBit rows a i = 0 ↔ pz ((rd rows (i : Int)).toNat &&& a.toNat) = false) := fun i hi => rowBit_pz rows a i (hm i hi) ha
  have key : KZ (rows.map Int.toNat) a.toNat ↔ ∀ i, i < rows.length → rowBit rows a i = 0 := by
    constructor
    · intro h i hi
      refine (hz i hi).2 (h _ (List.mem_map.2 ⟨rd rows (i : Int), ?_, rfl⟩))
      rw [rd_lt rows i hi]
      exact List.getElem_mem hi
    · intro h r hr2
      obtain ⟨x, hx, rfl⟩ := List.mem_map.1 hr2
      obtain ⟨i, hi, rfl⟩ := List.getElem_of_mem hx
      have := (hz i hi).1 (h i hi)
      rwa [rd_lt rows i hi] at this
  rw [key, setVal_sv]
  obtain h | h | h | h : rows.length = 0 ∨ rows.length = 1 ∨ rows.length = 2 ∨ rows.length = 3 := by omega
  · rw [h]; simp
  · rw [h]
    obtain ⟨p, hp⟩ := rowBit_01 rows a 0 (hm 0 (by omega)) ha
    rw [fold1, hp]
    refine (bitsZ1 p).trans ⟨fun e i hi => ?_, fun e => ?_⟩
    · obtain rfl : i = 0 := by omega
      rw [hp]; exact e
    · rw [← hp]; exact e 0 (by omega)
  · rw [h]
    obtain ⟨p, hp⟩ := rowBit_01 rows a 0 (hm 0 (by omega)) ha
    obtain ⟨q, hq⟩ := rowBit_01 rows a 1 (hm 1 (by omega)) ha
    rw [fold2, hp, hq]
    refine (bitsZ2 p q).trans ⟨fun e i hi => ?_, fun e => ?_⟩
    · obtain rfl | rfl : i = 0 ∨ i = 1 := by omega
      · rw [hp]; exact e.1
      · rw [hq]; exact e.2
    · rw [← hp, ← hq]; exact ⟨e 0 (by omega), e 1 (by omega)⟩
  · rw [h]
    obtain ⟨p, hp⟩ := rowBit_01 rows a 0 (hm 0 (by omega)) ha
    obtain ⟨q, hq⟩ := rowBit_01 rows a 1 (hm 1 (by omega)) ha
    obtain ⟨r, hr3⟩ := rowBit_01 rows a 2 (hm 2 (by omega)) ha
    rw [fold3, hp, hq, hr3]
    refine (bitsZ3 p q r).trans ⟨fun e i hi => ?_, fun e => ?_⟩
    · obtain rfl | rfl | rfl : i = 0 ∨ i = 1 ∨ i = 2 := by omega
      · rw [hp]; exact e.1
      · rw [hq]; exact e.2.1
      · rw [hr3]; exact e.2.2
    · rw [← hp, ← hq, ← hr3]; exact ⟨e 0 (by omega), e 1 (by omega), e 2 (by omega)⟩
theorem spN_lt (l : List Nat) (h : ∀ r ∈ l, r < 64) : ∀ z ∈ spN l, z < 64 := by
  induction l using snoc_ind with
  | h0 => intro z hz; have : z = 0 := by simpa [spN] using hz
          omega
  | hs l r ih =>
    have ih := ih (fun x hx => h x (List.mem_append_left _ hx))
    have hr := h r (by simp)
    intro z hz
    rcases (spN_mem l r z).1 hz with hz | hz
    · exact ih z hz
    · have h1 := lt64 (ih _ hz) hr
      rwa [xor_back] at h1
theorem pz_and_xor {a b c : Nat} (ha : a < 64) (hb : b < 64) : pz ((a ^^^ b) &&& c) = (pz (a &&& c) != pz (b &&& c)) := by
  have h1 : a &&& c < 64 := Nat.lt_of_le_of_lt Nat.and_le_left ha
  have h2 : b &&& c < 64 := Nat.lt_of_le_of_lt Nat.and_le_left hb
  rw [Nat.and_xor_distrib_right]
  exact pz_xor ⟨_, h1⟩ ⟨_, h2⟩
theorem KZ_span (l : List Nat) (h : ∀ r ∈ l, r < 64) (a : Nat) : KZ l a ↔ ∀ z ∈ spN l, pz (z &&& a) = false := by
  constructor
  · induction l using snoc_ind with
    | h0 => intro _ z hz; have : z = 0 := by simpa [spN] using hz
            rw [this, Nat.zero_and]; exact pz_zero
    | hs l r ih =>
      intro hk
      have hl : ∀ x ∈ l, x < 64 := fun x hx => h x (List.mem_append_left _ hx)
      have ih := ih hl (fun x hx => hk x (List.mem_append_left _ hx))
      have hr := h r (by simp)
      have hkr := hk r (by simp)
      intro z hz
      rcases (spN_mem l r z).1 hz with hz | hz
      · exact ih z hz
      · have h1 := ih _ hz
        have hz2 := spN_lt l hl _ hz
        have e := pz_and_xor (c := a) hz2 hr
        rw [xor_back, h1, hkr] at e
        exact e
  · intro hk r hr
    exact hk r (spN_gen l r hr)
theorem KZ_same {l m : List Nat} (hl : ∀ r ∈ l, r < 64) (hm : ∀ r ∈ m, r < 64) (h : SameSpan l m) (a : Nat) : KZ l a ↔ KZ m a := by
  rw [KZ_span l hl, KZ_span m hm]
  exact ⟨fun hk z hz => hk z ((h z).2 hz), fun hk z hz => hk z ((h z).1 hz)⟩
/-- The reduced rows. -/
def redL (R : List Int) : List Int := desc (redN (R.map Int.toNat))
theorem nat_lt64 {R : List Int} (hr : ∀ x ∈ R, 0 ≤ x ∧ x ≤ 63) : ∀ x ∈ R.map Int.toNat, x < 64 := by
  intro x hx
  obtain ⟨y, hy, rfl⟩ := List.mem_map.1 hx
  have := hr y hy
  omega
theorem redL_facts (R : List Int) (hl : R.length ≤ 3) (hr : ∀ x ∈ R, 0 ≤ x ∧ x ≤ 63) : ∃ M : List Nat, redL R = M.map (fun (n : Nat) => (n : Int)) ∧ (redL R).map Int.toNat = M ∧ SameSpan M (R.map Int.toNat) ∧ Redd M ∧ M.Pairwise (· > ·) ∧ M.length = (redN (R.map Int.toNat)).length ∧ M.length ≤ 3 := by
  have hR := redN_red (R.map Int.toNat) (nat_lt64 hr)
  have hlen := redN_len (R.map Int.toNat)
  rw [List.length_map] at hlen
  obtain ⟨M, hM, hmem, hgt, hml⟩ := desc_facts _ hR
  have hRM : Redd M := by
    refine ⟨fun o ho => hR.1 o ((hmem o).1 ho), ?_⟩
    have hsym : ∀ {a b : Nat}, Apart a b → Apart b a := fun h => ⟨h.2, h.1⟩
    have hall : ∀ a b, a ∈ redN (R.map Int.toNat) → b ∈ redN (R.map Int.toNat) → a ≠ b → Apart a b := by
      intro a b ha hb hab
      exact List.Pairwise.forall_of_forall_of_flip (R := fun a b => a ≠ b → Apart a b) (l := redN (R.map Int.toNat)) (fun x _ h => absurd rfl h) (hR.2.imp (S := fun a b => a ≠ b → Apart a b) (fun h _ => h)) (hR.2.imp (S := flip fun a b => a ≠ b → Apart a b) (fun h _ => hsym h)) ha hb hab
    exact hgt.imp_of_mem (fun ha hb hab => hall _ _ ((hmem _).1 ha) ((hmem _).1 hb) (by omega))
  refine ⟨M, hM, ?_, (SameSpan.perm (fun x => hmem x)).trans (redN_span _), hRM, hgt, hml, by omega⟩
  unfold redL
  rw [hM, List.map_map]
  exact (List.map_congr_left (fun n _ => Int.toNat_natCast n)).trans (List.map_id M)
theorem redL_ok (R : List Int) (hl : R.length ≤ 3) (hr : ∀ x ∈ R, 0 ≤ x ∧ x ≤ 63) : okRows (redL R) = true ∧ (redL R).length = (redN (R.map Int.toNat)).length := by
  obtain ⟨M, h1, h2, _, h4, _, h6, h7⟩ := redL_facts R hl hr
  refine ⟨(okRows_iff _).2 ⟨fun x hx => ?_, by rw [h1, List.length_map]; exact h7⟩, by rw [h1, List.length_map]; exact h6⟩
  rw [h1] at hx
  obtain ⟨n, hn, rfl⟩ := List.mem_map.1 hx
  have := (h4.1 n hn).2
  omega
theorem red_kernel (R : List Int) (hl : R.length ≤ 3) (hr : ∀ x ∈ R, 0 ≤ x ∧ x ≤ 63) (a : Int) (ha : 0 ≤ a ∧ a ≤ 63) : setVal (redL R) a = 0 ↔ setVal R a = 0 := by
  obtain ⟨M, h1, h2, h3, h4, _, h6, h7⟩ := redL_facts R hl hr
  obtain ⟨ho, _⟩ := redL_ok R hl hr
  obtain ⟨hr2, hl2⟩ := (okRows_iff _).1 ho
  rw [setVal_zero_iff _ a hl2 hr2 ha, setVal_zero_iff R a hl hr ha, h2]
  exact KZ_same (fun r hr => (h4.1 r hr).2) (nat_lt64 hr) h3 _
theorem red_same (R : List Int) (hl : R.length ≤ 3) (hr : ∀ x ∈ R, 0 ≤ x ∧ x ≤ 63) (a b : Int) (ha : 0 ≤ a ∧ a ≤ 63) (hb : 0 ≤ b ∧ b ≤ 63) : setVal (redL R) a = setVal (redL R) b ↔ setVal R a = setVal R b := by
  obtain ⟨ho, _⟩ := redL_ok R hl hr
  obtain ⟨hr2, hl2⟩ := (okRows_iff _).1 ho
  rw [← set_same (redL R) a b hl2 hr2 ha hb, ← set_same R a b hl hr ha hb]
  exact red_kernel R hl hr _ (xor_xo ha hb).2
theorem btw_in (U : List Int) (i : Nat) : ∀ x ∈ between U i, x ∈ U := by
  intro x hx
  unfold between at hx
  exact List.mem_of_mem_take (List.mem_of_mem_drop (((setL_facts _).2 x).1 hx))
theorem red_misses (R : List Int) (hl : R.length ≤ 3) (hr : ∀ x ∈ R, 0 ≤ x ∧ x ≤ 63) (p : Int) (U : List Int) (hU : ∀ x ∈ U, 0 ≤ x ∧ x ≤ 63) (i : Nat) (hi : i ≤ U.length) : misN (redL R) p U i = misN R p U i := by
  induction i with
  | zero => rfl
  | succ i ih =>
    have ih := ih (by omega)
    have hu : 0 ≤ rd U (i : Int) ∧ rd U (i : Int) ≤ 63 := by rw [rd_lt U i hi]; exact hU _ (List.getElem_mem hi)
    have ho : othersOf (redL R) U i = othersOf R U i := by
      unfold othersOf
      refine List.filter_congr fun x hx => ?_
      have hx := hU x (btw_in U i x hx)
      rw [decide_eq_decide.2 (red_same R hl hr (rd U (i : Int)) x hu hx)]
    have hm : missAt (redL R) p U i = missAt R p U i := by unfold missAt; rw [ho]
    show misN (redL R) p U i + _ = misN R p U i + _
    rw [ih, hm]
/- The sizes. -/
end Go.Proofs.Ytdhkcnhmmiigoaa.Q
