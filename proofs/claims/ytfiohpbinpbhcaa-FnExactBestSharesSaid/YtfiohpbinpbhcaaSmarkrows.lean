/- laws.markInt64SS writes marks into rows, no two of which share memory; the rows are few enough. -/
import Derived.Test.YtfiohpbinpbhcaaQx0
import Derived.Test.YtfiohpbinpbhcaaQx1
import Derived.Test.YtfiohpbinpbhcaaSbsboth
namespace Go.Proofs.Ytfiohpbinpbhcaa.Q
open Go.RowKit Go.Proofs.YtfiohpbinpbhcaaW.PrintWords Go.Proofs.YtfiohpbinpbhcaaW.PrintLast Go.Proofs.YtfiohpbinpbhcaaW.PrintMore
attribute [local go_sem] max2_int min2_int max_two min_two max_three min_three max_four min_four   -- for this text's walks alone
set_option linter.unusedVariables false
set_option linter.unusedSimpArgs false

def sumLen : List (List Int) → Nat
  | [] => 0
  | y :: H => y.length + sumLen H
def markRows : List (List Int) → Int → List (List Int)
  | [], _ => []
  | y :: H, a => ups a y.length :: markRows H (a + y.length)
theorem sumLen_append (X Z : List (List Int)) : sumLen (X ++ Z) = sumLen X + sumLen Z := by
  induction X with
  | nil => simp [sumLen]
  | cons y X ih => simp [sumLen, ih]; omega
theorem markRows_append (X Z : List (List Int)) (a : Int) : markRows (X ++ Z) a = markRows X a ++ markRows Z (a + (sumLen X : Int)) := by
  induction X generalizing a with
  | nil => simp [markRows, sumLen]
  | cons y X ih =>
    rw [List.cons_append, markRows, ih, markRows, List.cons_append, sumLen, show a + (y.length : Int) + (sumLen X : Int) = a + ((y.length + sumLen X : Nat) : Int) by omega]
theorem markRows_length (X : List (List Int)) (a : Int) : (markRows X a).length = X.length := by
  induction X generalizing a with
  | nil => rfl
  | cons y X ih => simp [markRows, ih]
theorem mark_set (H : List (List Int)) (a : Int) (j : Nat) (hj : j < H.length) : (markRows (H.take j) a ++ H.drop j).set j (ups (a + (sumLen (H.take j) : Int)) H[j].length) = markRows (H.take (j + 1)) a ++ H.drop (j + 1) := by
  have e1 : (markRows (H.take j) a).length = j := by rw [markRows_length, List.length_take]; omega
  rw [List.set_append, if_neg (by omega), e1, Nat.sub_self, List.drop_eq_getElem_cons hj, List.set_cons_zero, List.take_succ_eq_append_getElem hj, markRows_append]
  simp [markRows]
theorem mark_at (H : List (List Int)) (a : Int) (j : Nat) (hj : j < H.length) : (markRows (H.take j) a ++ H.drop j)[j]? = some H[j] := by
  have e1 : (markRows (H.take j) a).length = j := by rw [markRows_length, List.length_take]; omega
  rw [List.getElem?_append_right (by omega), e1, Nat.sub_self, List.getElem?_drop, Nat.add_zero, List.getElem?_eq_getElem hj]
theorem sumLen_take (H : List (List Int)) (j : Nat) (hj : j < H.length) : sumLen (H.take (j + 1)) = sumLen (H.take j) + H[j].length := by
  rw [List.take_succ_eq_append_getElem hj, sumLen_append]; simp [sumLen]
theorem sumLen_le (H : List (List Int)) (j : Nat) : sumLen (H.take j) ≤ sumLen H := by
  have := sumLen_append (H.take j) (H.drop j)
  rw [List.take_append_drop] at this
  omega
theorem S_row {w : World} {e e2 : TypeId} {base : Nat} {ok : Nat → Prop} {u : Value} {xs : List (List Int)} (h : Kd.S (Kd.slice e2 (Kd.int .i64)) e w base ok u xs) (j : Nat) (y : List Int) (hj : xs[j]? = some y) :
    ∃ (P : Nat → Prop) (v : Value) (g n c : Nat), u = .slice (some ⟨g, 0, none⟩) n c ∧ Kd.R (Kd.int .i64) e2 w base P v y ∧ w.cell? ⟨g, j, none⟩ = some v ∧ (∀ k, P k → ok k) ∧
      ∀ (w' : World) (y' : List Int), Kd.R (Kd.int .i64) e2 w' base (fun k => P k ∨ w.heap.size ≤ k) v y' → Kept w w' P → Kd.S (Kd.slice e2 (Kd.int .i64)) e w' base ok u (xs.set j y') := by
  obtain ⟨f, h0, inner, ho, hr⟩ := h
  have hz := Kd.zip_at hj
  obtain ⟨v, hv, hR⟩ := hr.2 j (y, j) hz
  change (inner.drop (j * 1)).take 1 = [v] at hv
  rw [Nat.mul_one] at hv
  have hi : inner[j]? = some v := by
    have := congrArg (fun l => l[0]?) hv
    simpa [List.getElem?_take, List.getElem?_drop] using this
  have hjl : j < xs.length := (List.getElem?_eq_some_iff.1 hj).1
  rcases ho.2 with ⟨_, hn⟩ | ⟨g, cap, cur, hu, _, _, _⟩
  · rw [List.length_zipIdx] at hn; omega
  have hg : u.ownBlock = some g := by rw [hu]; simp [Value.ownBlock]
  have hcell := ho.cells hg j v hi
  rw [add_plain] at hcell
  refine ⟨fun k => (ok k ∧ some k ≠ u.ownBlock) ∧ f k = j, v, g, _, cap, hu, hR, hcell, fun k hk => hk.1.1, fun w' y' hR' hK => ?_⟩
  refine ⟨f, h0, inner, ?_, ?_, fun i p hp => ?_⟩
  · have ho' := own_move (w1 := w') ho (fun k hk => hK.2 k (own_lt ho k hk) (fun hP => hP.1.2 hk.symm))
    rw [List.length_zipIdx] at ho' ⊢
    rw [List.length_set]
    exact ho'
  · have := hr.1
    rw [List.length_zipIdx] at this ⊢
    rw [List.length_set]
    exact this
  · rw [List.getElem?_zipIdx] at hp
    obtain ⟨q, hq, rfl⟩ := Option.map_eq_some_iff.1 hp
    rw [Nat.zero_add]
    by_cases hij : i = j
    · subst hij
      rw [List.getElem?_set_self hjl] at hq
      obtain rfl := Option.some.inj hq
      refine ⟨v, ?_, Kd.R_mono (Kd.R_tight rfl hR') (fun k hk => hR.1 k hk.symm)⟩
      change (inner.drop (i * 1)).take 1 = [v]
      rw [Nat.mul_one]; exact hv
    · rw [List.getElem?_set_ne (Ne.symm hij)] at hq
      have hm := hr.2 i (q, i) (Kd.zip_at hq)
      exact Kd.M_step (d := Kd.slice e2 (Kd.int .i64)) (ok := fun k => (ok k ∧ some k ≠ u.ownBlock) ∧ f k = i) hm (fun k hk hlt => hK.2 k hlt (fun hP => hij (hk.2.symm.trans hP.2)))
set_option maxHeartbeats 8000000 in
set_option maxRecDepth 100000 in
theorem laws_markInt64SS.calls (P0_ : Nat → Prop) (u : Value) (H : List (List Int)) (a : Int) (w0 w : World) (hB : Below w0.heap.size w0 w) (ho0 : Kd.S (Kd.slice 2 (Kd.int .i64)) 22 w w0.heap.size P0_ u H) (ha : 0 ≤ a) (hs : a + (sumLen H : Int) ≤ 1000000000000) (hl : ∀ y ∈ H, y.length ≤ 1000000000) :
    Calls Try.prog 40 #[u, .int .i64 a] w fun e w' => e = .returned (.int .i64 (a + (sumLen H : Int))) ∧ Kd.S (Kd.slice 2 (Kd.int .i64)) 22 w' w0.heap.size P0_ u (markRows H a) ∧ Below w0.heap.size w0 w' ∧ Kept w w' P0_ := by
  have hlen : H.length ≤ 9223372036854775807 := (Kd.R_reads (Kd.S_R ho0)).choose_spec.choose_spec.2.2.2.1
  obtain ⟨A, c, rfl⟩ := Kd.R_slice (Kd.S_R ho0)
  have HO := Aside0.mk ho0
  have HB := Aside0.mk hB
  have HL := Aside0.mk hl
  have HS := Aside0.mk hs
  have HA := Aside0.mk ha
  clear ho0 hB hl hs ha
  go_enter Try.func40, Try.ntmps40
  go_wp2_with (fail)
  go_loopg [1, 5] H.length (fun gg s1 s5 wr => ∃ kk : Nat, s1 = .int .i64 (a + (sumLen (H.take kk) : Int)) ∧ s5 = .int .i64 kk ∧ Aside0 (Kd.S (Kd.slice 2 (Kd.int .i64)) 22 wr w0.heap.size P0_ (.slice A H.length c) (markRows (H.take kk) a ++ H.drop kk)) ∧ Aside0 (Below w0.heap.size w0 wr) ∧ Aside0 (Kept w wr P0_) ∧ Aside0 (kk ≤ H.length ∧ H.length - kk ≤ gg))
  case atStart => exact ⟨0, (by simp [sumLen]), rfl, ⟨HO.out⟩, HB, ⟨Kept.refl _ _⟩, ⟨⟨Nat.zero_le _, by omega⟩⟩⟩
  case round =>
    obtain ⟨kk, rfl, rfl, HQ, HB1, HK, HN⟩ := hrel
    by_cases hlt : kk < H.length
    · have hltz : (kk : Int) < (H.length : Int) := by omega
      obtain ⟨P, v, g, n, cc, hu, hR, hcell, hP, hput⟩ := S_row HQ.out kk H[kk] (mark_at H a kk hlt)
      injection hu with hu1 hu2 hu3
      subst hu1 hu2 hu3
      have hsm := sumLen_take H kk hlt
      have hsl := sumLen_le H (kk + 1)
      have hyl := HL.out H[kk] (List.getElem_mem hlt)
      have hms := mark_set H a kk hlt
      obtain ⟨t, ht⟩ : ∃ t : Int, t = a + (sumLen (H.take kk) : Int) := ⟨_, rfl⟩
      rw [← ht] at hms ⊢
      have hev := ev_markInt64S H[kk] t (by omega) (by have := HA.out; omega) (by have := HS.out; omega)
      have HMK := Aside0.mk (laws_markInt64S.calls hev.choose P v H[kk] t _ _ w0 wr HB1.out hR (hev.choose_spec _ (Nat.le_refl _)))
      have HPUT := Aside0.mk (fun (w' : World) (h1 : Kd.R (Kd.int .i64) 2 w' w0.heap.size (fun k => P k ∨ wr.heap.size ≤ k) v (ups t H[kk].length)) (h2 : Kept wr w' P) => (show Kd.S (Kd.slice 2 (Kd.int .i64)) 22 w' w0.heap.size P0_ (.slice (some ⟨g, 0, none⟩) H.length c) (markRows (H.take (kk + 1)) a ++ H.drop (kk + 1)) from hms ▸ hput w' _ h1 h2))
      have HP := Aside0.mk hP
      have HT := Aside0.mk (show t + (H[kk].length : Int) = a + (sumLen (H.take (kk + 1)) : Int) by omega)
      clear hms hsm hsl hyl ht hev hput hP hR
      go_wp2_with (go_at_call 24; with_reducible refine HMK.out.mono ?_; rintro e w' ⟨rfl, hR2, hb2, hk2⟩; have HQ2 := Aside0.mk (HPUT.out w' hR2 hk2); have HB2 := Aside0.mk hb2; have HK2 := Aside0.mk (Kept.then_ HK.out hk2 (fun k hk => .inl (HP.out k hk))); clear hR2 hb2 hk2)
      go_roundg (H.length - (kk + 1))
      case measure => have := HN.out; omega
      case rel => exact ⟨kk + 1, by rw [← HT.out], by go_num, HQ2, HB2, HK2, ⟨by have := HN.out; omega⟩⟩
    · have hltz : ¬ (kk : Int) < (H.length : Int) := by omega
      have hke : kk = H.length := by have := HN.out.1; omega
      subst hke
      have hq := HQ.out
      rw [List.take_length, List.drop_length, List.append_nil] at hq
      have HQ2 := Aside0.mk hq
      clear hq
      rw [List.take_length]
      go_wp2_with (fail)
      go_ret
      exact ⟨rfl, HQ2.out, HB1.out, HK.out⟩
end Go.Proofs.Ytfiohpbinpbhcaa.Q
