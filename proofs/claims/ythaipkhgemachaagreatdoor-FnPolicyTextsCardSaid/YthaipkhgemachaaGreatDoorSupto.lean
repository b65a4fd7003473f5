/- Parts of the proof, laid together: contracts and lemmas; no conditions beyond those written. -/
import Derived.Test.YthaipkhgemachaaGreatDoorQx0
import Derived.Test.YthaipkhgemachaaGreatDoorQx2
import Derived.Test.YthaipkhgemachaaGreatDoorSmovedk
namespace Go.Proofs.YthaipkhgemachaaGreatDoor.Q
open Go.RowKit Go.Proofs.YthaipkhgemachaaGreatDoorW.PrintWords Go.Proofs.YthaipkhgemachaaGreatDoorW.PrintLast Go.Proofs.YthaipkhgemachaaGreatDoorW.PrintMore
attribute [local go_sem] max2_int min2_int max_two min_two max_three min_three max_four min_four   -- for this text's walks alone
set_option linter.unusedVariables false
set_option linter.unusedSimpArgs false
section
/-- What has come when k rounds are over. -/
def upto (f : Nat → Int) (k : Nat) : List Int := (List.range k).map f
theorem upto_succ (f : Nat → Int) (k : Nat) : upto f (k + 1) = upto f k ++ [f k] := by simp [upto, List.range_succ]
theorem upto_length (f : Nat → Int) (k : Nat) : (upto f k).length = k := by simp [upto]
theorem upto_all (zs : List Int) : upto (fun j => zs[j]?.getD 0) zs.length = zs := by
  apply List.ext_getElem
  · simp [upto]
  · intro i h1 h2
    simp [upto, h2]
end
section
def impl_length_int64.f (l0 : List Int) : Option Int := impl_length_int64_35.f l0
theorem impl_length_int64.calls (A0 : Option Addr) (c0 : Nat) (l0 : List Int) (r : Int) (w : World) (hr0 : Kd.C (Kd.int .i64) w A0 l0.length l0) (hc0 : l0.length ≤ c0) (h : impl_length_int64.f l0 = some r) :
    Calls Tryz.prog 35 #[.slice A0 l0.length c0] w fun e w' => e = .returned (.int .i64 r) ∧ Drawn0 w w' := impl_length_int64_35.calls A0 c0 l0 r w hr0 hc0 h
end
section
theorem R_of_own {w : World} {base : Nat} {e : TypeId} {v : Value} {xs : List Int} (h : w.ownsRow base e 1 v xs.length (xs.map (Value.int .i64))) : Kd.R (Kd.int .i64) e w base (fun _ => True) v xs := by
  refine ⟨fun _ _ => trivial, xs.map (Value.int .i64), h, by show _ = xs.length * 1; simp, fun j p hj => ?_⟩
  show ((xs.map (Value.int .i64)).drop (j * 1)).take 1 = [Value.int .i64 p]
  rw [Nat.mul_one]
  have hl : j < xs.length := (List.getElem?_eq_some_iff.1 hj).1
  have hp : xs[j] = p := (List.getElem?_eq_some_iff.1 hj).2
  rw [List.drop_eq_getElem_cons (by simpa using hl)]
  simp [hp]
theorem own_of_R {w : World} {base : Nat} {e : TypeId} {ok : Nat → Prop} {v : Value} {xs : List Int} (h : Kd.R (Kd.int .i64) e w base ok v xs) : w.ownsRow base e 1 v xs.length (xs.map (Value.int .i64)) := by
  obtain ⟨_, inner, ho, hr⟩ := h
  have : inner = xs.map (Value.int .i64) := by
    apply List.ext_getElem
    · have h0 : inner.length = xs.length * 1 := hr.1
      simpa using h0
    · intro j h1 h2
      have hj : j < xs.length := by simpa using h2
      have hq := hr.2 j xs[j] (List.getElem?_eq_getElem hj)
      replace hq : (inner.drop (j * 1)).take 1 = [Value.int .i64 xs[j]] := hq
      rw [Nat.mul_one, List.drop_eq_getElem_cons h1, List.take_succ_cons, List.take_zero] at hq
      rw [List.getElem_map]
      exact (List.cons.inj hq).1
  rw [← this]
  exact ho
theorem C_of_own {w : World} {base n : Nat} {e : TypeId} {v : Value} {xs : List Int} (h : w.ownsRow base e 1 v xs.length (xs.map (Value.int .i64))) : ∃ A c, v = .slice A xs.length c ∧ xs.length ≤ c ∧ Kd.C (Kd.int .i64) w A xs.length xs := Kd.R_reads (R_of_own h)
end
section
def ascI (n : Nat) : List Int := (List.range n).map fun (j : Nat) => (j : Int)
theorem ascI_len (n : Nat) : (ascI n).length = n := by unfold ascI; rw [List.length_map, List.length_range]
set_option maxRecDepth 100000 in
theorem ev_asc7 : ∀ n : Fin 7, impl_ascending.f 10 (n.val : Int) = some (ascI n.val) := by decide +kernel
theorem ev_asc (n : Nat) (h : n ≤ 6) : impl_ascending.f 10 (n : Int) = some (ascI n) := ev_asc7 ⟨n, by omega⟩
theorem lit_C (W : World) (x : Int) : Kd.C (Kd.int .i64) (W.alloc (.cells #[.int .i64 x] 2)) (some ⟨W.heap.size, 0, none⟩) 1 [x] :=
  (Kd.R_reads' (nums_R (ok := fun _ => True) (xs := [x]) (own_of_cells (base := 0) (m := 1) (c := 1) (cur := #[.int .i64 x]) (heap_alloc_new W _) rfl rfl (Nat.zero_le _) (by decide) (by decide)) (fun _ _ => trivial))).2.2
set_option maxHeartbeats 4000000 in
set_option maxRecDepth 100000 in
theorem moved_end (n i : Nat) (h1 : 1 ≤ n) (h6 : n ≤ 6) (hi : i < n) (w : World) :
    Calls Tryz.prog 27 #[.int .i64 (n : Int), .int .i64 (i : Int), .int .i64 ((n - 1 : Nat) : Int)] w fun e w' => ∃ v, e = .returned v ∧ Kd.R (Kd.int .i64) 2 w' w.heap.size (fun _ => True) v ((ascI n).eraseIdx i ++ [(i : Int)]) ∧ Below w.heap.size w w' := by
  have HA := Aside0.mk (fun W => impl_ascending.calls 10 (n : Int) (ascI n) W (ev_asc n h6))
  have HLN := Aside0.mk (ascI_len n)
  have HN := Aside0.mk (And.intro h1 (And.intro h6 hi))
  have hw : IntKind.i64.wrap ((i : Int) + 1) = (i : Int) + 1 := by rw [IntKind.wrap_i64]; omega
  clear h1 h6 hi
  go_enter Tryz.func27, Tryz.ntmps27
  go_wp2_with (first
    | (go_at_call 33; (with_reducible refine (HA.out _).mono ?_); rintro e w2 ⟨v0, rfl, ho, hb⟩; obtain ⟨g, c, e1, hg1, hg2, hg3⟩ := Kd.R_form ho (by rw [HLN.out]; have := HN.out; omega); rw [HLN.out] at e1; subst e1; have HO2 := Aside0.mk ho; have HB2 := Aside0.mk hb; clear ho hb hg1 hg2 hg3)
    | (go_at_call 50; (with_reducible refine (del_calls w _ w.heap.size g n c i (fun _ => True) (ascI n) HO2.out HB2.out HB2.out.size HN.out.2.2 (Kd.R_reads' HO2.out).2.1 HLN.out trivial).mono ?_); rintro e w3 ⟨rfl, ho, hb, hg⟩; have HO3 := Aside0.mk ho; have HB3 := Aside0.mk hb; clear ho hb hg)
    | (go_at_call 51; (with_reducible refine (ins_end w _ w.heap.size g (n - 1) c (i : Int) _ (fun _ => True) ((ascI n).eraseIdx i) (Kd.R_alloc HO3.out _) (by rw [List.length_eraseIdx_of_lt (by rw [HLN.out]; exact HN.out.2.2), HLN.out]) (lit_C w3 (i : Int)) (below_alloc HB3.out _) (below_alloc HB3.out _).size (fun _ _ => trivial) (by have := HN.out; omega) (by have := (Kd.R_reads' HO2.out).2.1; omega)).mono ?_); rintro e w4 ⟨v4, rfl, ho, hb, hg⟩; have HO4 := Aside0.mk ho; have HB4 := Aside0.mk hb; clear ho hb hg))
  go_ret
  exact ⟨_, rfl, HO4.out, HB4.out⟩
set_option maxHeartbeats 4000000 in
set_option maxRecDepth 100000 in
theorem moved_front (i : Nat) (y : Int) (hi : i < 2) (hy : (ascI 2).eraseIdx i = [y]) (w : World) :
    Calls Tryz.prog 27 #[.int .i64 2, .int .i64 (i : Int), .int .i64 0] w fun e w' => ∃ v, e = .returned v ∧ Kd.R (Kd.int .i64) 2 w' w.heap.size (fun _ => True) v [(i : Int), y] ∧ Below w.heap.size w w' := by
  have HA := Aside0.mk (fun W => impl_ascending.calls 10 (2 : Int) (ascI 2) W (ev_asc 2 (by decide)))
  have HLN := Aside0.mk (ascI_len 2)
  have HN := Aside0.mk hi
  have HY := Aside0.mk hy
  have hw : IntKind.i64.wrap ((i : Int) + 1) = (i : Int) + 1 := by rw [IntKind.wrap_i64]; omega
  clear hi hy
  go_enter Tryz.func27, Tryz.ntmps27
  go_wp2_with (first
    | (go_at_call 33; (with_reducible refine (HA.out _).mono ?_); rintro e w2 ⟨v0, rfl, ho, hb⟩; obtain ⟨g, c, e1, hg1, hg2, hg3⟩ := Kd.R_form ho (by rw [HLN.out]; decide); rw [HLN.out] at e1; subst e1; have HO2 := Aside0.mk ho; have HB2 := Aside0.mk hb; have HG2 := Aside0.mk hg2; clear ho hb hg1 hg2 hg3)
    | (go_at_call 50; (with_reducible refine (del_calls w _ w.heap.size g 2 c i (fun _ => True) (ascI 2) HO2.out HB2.out HB2.out.size HN.out (Kd.R_reads' HO2.out).2.1 HLN.out trivial).mono ?_); rintro e w3 ⟨rfl, ho, hb, hg⟩; rw [HY.out] at ho; have HO3 := Aside0.mk ho; have HB3 := Aside0.mk hb; have HG3 := Aside0.mk (Nat.ne_of_gt (Nat.lt_of_lt_of_le HG2.out hg.size)); clear ho hb hg)
    | (go_at_call 51; (with_reducible refine (ins_zero w _ w.heap.size g c _ (i : Int) y (fun _ => True) (Kd.R_alloc HO3.out _) (heap_alloc_new w3 _) HG3.out (below_alloc HB3.out _) (below_alloc HB3.out _).size trivial (Kd.R_reads' HO2.out).2.1).mono ?_); rintro e w4 ⟨v4, rfl, ho, hb, hg⟩; have HO4 := Aside0.mk ho; have HB4 := Aside0.mk hb; clear ho hb hg))
  go_ret
  exact ⟨_, rfl, HO4.out, HB4.out⟩
end
end Go.Proofs.YthaipkhgemachaaGreatDoor.Q
