/- laws.markSpace marks a space whose buffer is empty. -/
import Derived.Test.YteobbgofbedgdaaQx0
import Derived.Test.YteobbgofbedgdaaQx2
import Derived.Test.YteobbgofbedgdaaSmarkentries
import Derived.Test.YteobbgofbedgdaaSmarks
namespace Go.Proofs.Yteobbgofbedgdaa.Q
open Go.RowKit Go.Proofs.YteobbgofbedgdaaW.PrintWords Go.Proofs.YteobbgofbedgdaaW.PrintLast Go.Proofs.YteobbgofbedgdaaW.PrintMore
attribute [local go_sem] max2_int min2_int max_two min_two max_three min_three max_four min_four   -- for this text's walks alone
set_option linter.unusedVariables false
set_option linter.unusedSimpArgs false

theorem sumLenE_eight (H : List (List S104)) (h : ∀ y ∈ H, y.length ≤ 8) : sumLenE H ≤ 32 * H.length := by
  induction H with
  | nil => exact Nat.le_refl _
  | cons y H ih =>
    have h1 := h y (by simp)
    have h2 := ih (fun z hz => h z (List.mem_cons_of_mem _ hz))
    show 4 * y.length + sumLenE H ≤ 32 * (H.length + 1)
    omega
theorem markCached_nil (a : Int) : laws_markCachedS.f 1 [] a = some (a, []) := by
  unfold laws_markCachedS.f
  simp [laws_markCachedS.l0]
set_option maxHeartbeats 4000000 in
set_option maxRecDepth 100000 in
theorem laws_markSpace.calls (P Q Z : Nat → Prop) (A : Option Addr) (c : Nat) (A2 : Option Addr) (c2 : Nat) (v3 : Value) (H : List (List S104)) (M : List Int) (w0 w : World) (hPQ : ∀ k, P k → ¬ Q k) (hPZ : ∀ k, P k → ¬ Z k) (hQZ : ∀ k, Q k → ¬ Z k) (hPw : ∀ k, P k → k < w.heap.size) (hQw : ∀ k, Q k → k < w.heap.size) (hZw : ∀ k, Z k → k < w.heap.size) (hB : Below w0.heap.size w0 w)
    (hR : Kd.R (Kd.int .i64) 2 w w0.heap.size Q (.slice A2 M.length c2) M) (hS : Kd.S (Kd.slice 104 k104) 71 w w0.heap.size P (.slice A H.length c) H) (hZ : Kd.R k110 110 w w0.heap.size Z v3 []) (hH : H.length ≤ 8) (hin : ∀ y ∈ H, y.length ≤ 8) (hM : M.length ≤ 8) :
    Calls Try.prog 23 #[.agg #[.slice A2 M.length c2, .slice A H.length c, v3], .int .i64 1] w fun e w' => e = .returned (.int .i64 (1 + (M.length : Int) + (sumLenE H : Int))) ∧ Kd.S (Kd.slice 104 k104) 71 w' w0.heap.size P (.slice A H.length c) (markRowsE H (1 + (M.length : Int))) ∧ Kd.R (Kd.int .i64) 2 w' w0.heap.size (fun _ => True) (.slice A2 M.length c2) (ups 1 M.length) ∧ Kd.R k110 110 w' w0.heap.size (fun _ => True) v3 [] ∧ Below w0.heap.size w0 w' ∧ (∀ k, k < w.heap.size → ¬ P k → ¬ Q k → ¬ Z k → w'.heap[k]? = w.heap[k]?) := by
  have hu := Try.underlying37
  have h6 := sumLenE_eight H hin
  obtain ⟨A3, c3, rfl⟩ := Kd.R_slice hZ
  have hZ0 : Kd.R k110 110 w w0.heap.size Z (.slice A3 0 c3) [] := hZ
  clear hZ
  have hZ := hZ0
  clear hZ0
  obtain ⟨kM, eM⟩ := ev_markInt64S M 1 (by omega) (by omega) (by omega)
  have HEM := Aside0.mk (eM kM (Nat.le_refl _))
  obtain ⟨w1, hw1⟩ : ∃ w1, w1 = w.alloc (.cells #[.slice A2 M.length c2, .slice A H.length c, .slice A3 0 c3] 37) := ⟨_, rfl⟩
  have hal : Below w.heap.size w w1 := by rw [hw1]; exact below_alloc (Below.refl _ _) _
  have HAL := Aside0.mk hal
  have HB1 := Aside0.mk (below_step hB hal)
  have HS1 := Aside0.mk (Kd.S_below hS hal)
  have HR1 := Aside0.mk (Kd.R_below hR hal)
  have HZ1 := Aside0.mk (Kd.R_below hZ hal)
  have HX1 : Aside0 (w1.heap[w.heap.size]? = some (.cells #[.slice A2 M.length c2, .slice A H.length c, .slice A3 0 c3] 37 (0, 0))) := ⟨by rw [hw1]; exact blk_new w _⟩
  have HPQ := Aside0.mk hPQ
  have HPZ := Aside0.mk hPZ
  have HQZ := Aside0.mk hQZ
  have HPW := Aside0.mk hPw
  have HQW := Aside0.mk hQw
  have HZW := Aside0.mk hZw
  have HSZ : Aside0 (w1.heap.size = w.heap.size + 1) := ⟨by rw [hw1]; simp⟩
  have HIN := Aside0.mk hin
  clear eM hal hB hS hR hZ hPQ hPZ hQZ hPw hQw hZw hin
  have M0 := Aside0.mk trivial
  go_enter Try.func23, Try.ntmps23
  go_wp2_with (first
    | (have q_ := M0; clear q_; go_at_call 18; rw [← hw1]; (with_reducible refine (laws_markInt64S.calls kM Q (.slice A2 M.length c2) M 1 _ _ w0 w1 HB1.out HR1.out HEM.out).mono ?_); rintro e w2 ⟨rfl, hR2, hb2, hk2⟩; have HR2 := Aside0.mk hR2; have HB2 := Aside0.mk hb2; have HK2 := Aside0.mk hk2; have hx2 : w2.heap[w.heap.size]? = _ := (hk2.2 w.heap.size (by have := HSZ.out; omega) (fun hp => by have := HQW.out _ hp; omega)).trans HX1.out; have HX2 := Aside0.mk hx2; have hc1 : w2.cell? ⟨w.heap.size, 1, none⟩ = some (.slice A H.length c) := (by rw [blk_cell hx2]; rfl); have HS2 := Aside0.mk (Kd.S_step HS1.out (fun k hk hlt => hk2.2 k hlt (fun hp => HPQ.out k hk hp))); have HZ2 := Aside0.mk (Kd.R_step HZ1.out (fun k hk hlt => hk2.2 k hlt (fun hp => HQZ.out k hp hk))); clear hR2 hb2 hk2 hx2 hw1; clear M0; have M1 := Aside0.mk trivial)
    | (have q_ := M1; clear q_; go_at_call 56; (with_reducible refine (laws_markEntrySS.calls P (.slice A H.length c) H (1 + (M.length : Int)) w0 w2 HB2.out HS2.out (by omega) (by omega) (fun y hy => by have := HIN.out y hy; omega)).mono ?_); rintro e w3 ⟨rfl, hS3, hb3, hk3⟩; have HS3 := Aside0.mk hS3; have HB3 := Aside0.mk hb3; have HK3 := Aside0.mk hk3; have hx3 : w3.heap[w.heap.size]? = _ := (hk3.2 w.heap.size (by have := HSZ.out; have := HK2.out.1; omega) (fun hp => by have := HPW.out _ hp; omega)).trans HX2.out; have hc2 : w3.cell? ⟨w.heap.size, 2, none⟩ = some (.slice A3 0 c3) := (by rw [blk_cell hx3]; rfl); have HR3 := Aside0.mk (Kd.R_step HR2.out (fun k hk hlt => hk3.2 k hlt (fun hp => hk.elim (HPQ.out k hp) (fun hge => by have := HPW.out k hp; have := HSZ.out; omega)))); have HZ3 := Aside0.mk (Kd.R_step HZ2.out (fun k hk hlt => hk3.2 k hlt (fun hp => HPZ.out k hp hk))); clear hS3 hb3 hk3 hx3 hc1; clear M1; have M2 := Aside0.mk trivial)
    | (have q_ := M2; clear q_; go_at_call 57; (with_reducible refine (laws_markCachedS.calls 1 Z (.slice A3 0 c3) [] (1 + (M.length : Int) + (sumLenE H : Int)) _ _ w0 w3 HB3.out HZ3.out (markCached_nil _)).mono ?_); rintro e w4 ⟨rfl, hZ4, hb4, hk4⟩; have HZ4 := Aside0.mk hZ4; have HB4 := Aside0.mk hb4; have HK4 := Aside0.mk hk4; have HS4 := Aside0.mk (Kd.S_step HS3.out (fun k hk hlt => hk4.2 k hlt (fun hp => HPZ.out k hk hp))); have HR4 := Aside0.mk (Kd.R_step HR3.out (fun k hk hlt => hk4.2 k hlt (fun hp => hk.elim (fun hq => HQZ.out k hq hp) (fun hge => by have := HZW.out k hp; have := HSZ.out; omega)))); clear hZ4 hb4 hk4; clear M2; have M3 := Aside0.mk trivial))
  go_ret
  refine ⟨rfl, HS4.out, Kd.R_mono HR4.out (fun _ _ => trivial), Kd.R_mono HZ4.out (fun _ _ => trivial), HB4.out, fun k hk hp hq hz => ?_⟩
  have e1 : w1.heap[k]? = w.heap[k]? := HAL.out.block k hk
  have h1 : k < w1.heap.size := by have := HSZ.out; omega
  have e2 := HK2.out.2 k h1 hq
  have h2 := Nat.lt_of_lt_of_le h1 HK2.out.1
  have e3 := HK3.out.2 k h2 hp
  have e4 := HK4.out.2 k (Nat.lt_of_lt_of_le h2 HK3.out.1) hz
  rw [e4, e3, e2, e1]
end Go.Proofs.Yteobbgofbedgdaa.Q
