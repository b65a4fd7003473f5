/- impl.RankOf answers how many rows the reduced index has; no conditions. -/
import Derived.Test.YtdhkcnhmmiigoaaQx0
import Derived.Test.YtdhkcnhmmiigoaaHreduced
import Derived.Test.YtdhkcnhmmiigoaaQx1
import Derived.Test.YtdhkcnhmmiigoaaQx2
import Derived.Test.YtdhkcnhmmiigoaaSokrows
import Derived.Test.YtdhkcnhmmiigoaaSred
import Derived.Test.YtdhkcnhmmiigoaaSupto
namespace Go.Proofs.Ytdhkcnhmmiigoaa.Q
open Go.RowKit Go.Proofs.YtdhkcnhmmiigoaaW.PrintWords Go.Proofs.YtdhkcnhmmiigoaaW.PrintLast Go.Proofs.YtdhkcnhmmiigoaaW.PrintMore
attribute [local go_sem] max2_int min2_int max_two min_two max_three min_three max_four min_four   -- for this text's walks alone
set_option linter.unusedVariables false
set_option linter.unusedSimpArgs false

def impl_RankOf.f (l0_0 : List Int) : Option (Int × Bool) := if okRows l0_0 = true then some (((redN (l0_0.map Int.toNat)).length : Int), true) else some (0, false)
attribute [local go_sem] run_rowsField
set_option maxHeartbeats 4000000 in
set_option maxRecDepth 100000 in
theorem impl_RankOf.calls (A0_0 : Option Addr) (c0_0 : Nat) (l0_0 : List Int) (r1 : Int) (r2 : Bool) (w : World) (hr0_0 : Kd.C (Kd.int .i64) w A0_0 l0_0.length l0_0) (hc0_0 : l0_0.length ≤ c0_0) (h : impl_RankOf.f l0_0 = some (r1, r2)) :
    Calls Try.prog 17 #[.agg #[.slice A0_0 l0_0.length c0_0]] w fun e w' => e = .returned (.tuple #[.int .i64 r1, .bool r2]) ∧ Below w.heap.size w w' := by
  unfold impl_RankOf.f at h
  have hu := Try.underlying26
  have hb : Below w.heap.size w (w.alloc (.cells #[.slice A0_0 l0_0.length c0_0] 26)) := below_alloc (Below.refl _ _) _
  have hbx : (w.alloc (.cells #[.slice A0_0 l0_0.length c0_0] 26)).cell? ⟨w.heap.size, 0, none⟩ = some (.slice A0_0 l0_0.length c0_0) := by simp
  have HBX := Aside0.mk (show ∀ W, Below (w.alloc (.cells #[.slice A0_0 l0_0.length c0_0] 26)).heap.size (w.alloc (.cells #[.slice A0_0 l0_0.length c0_0] 26)) W → W.cell? ⟨w.heap.size, 0, none⟩ = some (.slice A0_0 l0_0.length c0_0) from fun W h => (h.cell (World.block_lt_of_cell? _ _ hbx)).trans hbx)
  have HV := Aside0.mk (impl_ValidIndex.calls A0_0 c0_0 l0_0 (okRows l0_0) _ (Kd.C_below hr0_0 hb) hc0_0 (impl_ValidIndex_f l0_0))
  have HB := Aside0.mk hb
  have HR0 := Aside0.mk hr0_0
  have HC0 := Aside0.mk hc0_0
  clear hb hbx hr0_0 hc0_0
  cases hg0 : okRows l0_0 with
  | false =>
    rw [hg0] at HV
    rw [hg0, if_neg (by simp)] at h
    obtain ⟨rfl, rfl⟩ := Prod.mk.inj (Option.some.inj h)
    clear h hg0
    go_enter Try.func17, Try.ntmps17
    go_wp2_with (go_at_call 51; with_reducible refine HV.out.mono ?_; rintro e w1 ⟨rfl, hb1⟩; have HB1 := Aside0.mk (below_step HB.out hb1); clear hb1)
    go_ret2
    exact ⟨rfl, HB1.out⟩
  | true =>
    rw [hg0] at HV
    rw [hg0, if_pos rfl] at h
    obtain ⟨rfl, rfl⟩ := Prod.mk.inj (Option.some.inj h)
    have HD := Aside0.mk (desc_length (redN (l0_0.map Int.toNat)))
    have HRD := Aside0.mk (fun (W : World) (hb : Below w.heap.size w W) => impl_Index_reduced.calls A0_0 c0_0 l0_0 (desc (redN (l0_0.map Int.toNat))) W (Kd.C_below HR0.out hb) HC0.out (by unfold impl_Index_reduced.f; rw [hg0, if_pos rfl]))
    clear h hg0
    go_enter Try.func17, Try.ntmps17
    go_wp2_with (first | (go_at_call 51; with_reducible refine HV.out.mono ?_; rintro e w1 ⟨rfl, hb1⟩; have hcell := HBX.out _ hb1; have HB1 := Aside0.mk (below_step HB.out hb1); clear hb1) | (go_at_call 53; with_reducible refine (HRD.out _ HB1.out).mono ?_; rintro e w2 ⟨v, rfl, hv, hb2⟩; obtain ⟨Av, cv, rfl, hcv, hCv⟩ := Kd.R_reads hv; have HCV := Aside0.mk hCv; have HCC := Aside0.mk hcv; have HB2 := Aside0.mk (below_step HB1.out hb2); clear hv hb2 hCv hcv) | (go_at_call 52; with_reducible refine (impl_length_int64.calls Av cv _ _ _ HCV.out HCC.out rfl).mono ?_; rintro e w3 ⟨rfl, ⟨nd, rfl⟩⟩))
    go_ret2
    exact ⟨by rw [HD.out]; rfl, pw_below_drewN HB2.out nd⟩
end Go.Proofs.Ytdhkcnhmmiigoaa.Q
