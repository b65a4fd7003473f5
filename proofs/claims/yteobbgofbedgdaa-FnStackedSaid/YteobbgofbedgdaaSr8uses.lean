/- Parts of the proof, laid together: contracts and lemmas; no conditions beyond those written. -/
import Derived.Test.YteobbgofbedgdaaQx0
import Derived.Test.YteobbgofbedgdaaQx2
import Derived.Test.YteobbgofbedgdaaSbase
import Derived.Test.YteobbgofbedgdaaSsetldef
import Derived.Test.YteobbgofbedgdaaSdrawfew
import Derived.Test.YteobbgofbedgdaaSsetlimpl
import Derived.Test.YteobbgofbedgdaaSdelfunc
import Derived.Test.YteobbgofbedgdaaSmaxfunc
import Derived.BigQuiet
namespace Go.Proofs.Yteobbgofbedgdaa.Q
open Go.RowKit Go.Proofs.YteobbgofbedgdaaW.PrintWords Go.Proofs.YteobbgofbedgdaaW.PrintLast Go.Proofs.YteobbgofbedgdaaW.PrintMore
attribute [local go_sem] max2_int min2_int max_two min_two max_three min_three max_four min_four   -- for this text's walks alone
set_option linter.unusedVariables false
set_option linter.unusedSimpArgs false
section
theorem ev_R8Uses (l : List Int) (hb : Bytes l) : ∃ u, Ev (fun k => spec_R8Uses.f k l) u ∧ okUses u = true ∧ u.length ≤ 13 := by
  unfold spec_R8Uses.f
  obtain ⟨n, a1, s1, e1, hn, h1⟩ := pick_ok l hb 0 0 14 (by omega) (by omega) (by omega)
  obtain ⟨m, a2, s2, e2, hm, h2⟩ := pick_ok l hb a1 s1 5 (by omega) (by omega) (by omega)
  obtain ⟨u, a3, s3, e3, hl, hr, h3⟩ := few_ok l hb a2 s2 n (m + 1) (by omega) (by omega) (by omega) (by omega)
  refine ⟨u, Ev.cbind (a := (l, 0, 0)) rfl (Ev.cbind e1 (Ev.cbind e2 (Ev.bind (a := (u, (a3 : Int), s3)) ?_ (Ev.now _)))), (okUses_iff u).2 ⟨hr, by omega⟩, by omega⟩
  have : wrap64 (1 + (m : Int)) = ((m + 1 : Nat) : Int) := by rw [wrap64_id (by omega) (by omega)]; omega
  show Ev (fun k => spec_l02DrawFew.f k l (a2 : Int) s2 (n : Int) (wrap64 (1 + (m : Int)))) _
  rw [this]
  exact e3
end
section
set_option maxHeartbeats 4000000 in
set_option maxRecDepth 100000 in
theorem rankCmp.pred (A : Option Addr) (c : Nat) (R S : List Int) (hR : R.length = 64) (hS : ∀ x ∈ S, 0 ≤ x ∧ x ≤ 63) (w : World) (B : Nat) (hcell : w.cell? ⟨B, 0, none⟩ = some (.slice A R.length c)) (hC : Kd.C (Kd.int .i64) w A R.length R) :
    CmpI 83 #[.pointer (some ⟨B, 0, none⟩)] S (fun x y => wrap64 (rd R x - rd R y)) w := fun W x y hb hx hy => by
  have hx' := hS x hx
  have hy' := hS y hy
  have hc := (hb.cell (World.block_lt_of_cell? _ _ hcell)).trans hcell
  have hCW := Kd.C_below hC hb
  have px0 := hx'.1
  have py0 := hy'.1
  have px1 : x < (R.length : Int) := by omega
  have py1 : y < (R.length : Int) := by omega
  obtain ⟨ad, e, hvx⟩ := Kd.at_int hCW x px0 px1
  cases e
  obtain ⟨ad2, e2, hvy⟩ := Kd.at_int hCW y py0 py1
  cases e2
  obtain ⟨rx, hrx⟩ : ∃ q, q = rd R x := ⟨_, rfl⟩
  obtain ⟨ry, hry⟩ : ∃ q, q = rd R y := ⟨_, rfl⟩
  rw [← hrx] at hvx
  rw [← hry] at hvy
  have HX := Aside0.mk hrx
  have HY := Aside0.mk hry
  clear hcell hC hCW hx' hy' hb hx hy hrx hry hR hS
  show Calls Try.prog 83 #[.int .i64 x, .int .i64 y, .pointer (some ⟨B, 0, none⟩)] W _
  go_enter Try.func83, Try.ntmps83
  go_wp2_with (fail)
  go_quiet (fail)
  go_wp2
  go_ret
  exact ⟨by rw [← HX.out, ← HY.out]; rfl, by repeat (first | exact Below.refl _ _ | apply pw_below_drewN | apply below_drew1)⟩
theorem rankGoes.pred (m : Int) (l : List Int) (w : World) (row : Option Nat) (B : Nat) (hB : ∀ W, w.grownBy W row → W.cell? ⟨B, 0, none⟩ = some (.int .i64 m)) :
    PredOverI 85 #[.pointer (some ⟨B, 0, none⟩)] l (fun x => decide (x = m)) w row := fun W x hW _ => by
  have hc := hB W hW
  clear hB hW
  show Calls Try.prog 85 #[.int .i64 x, .pointer (some ⟨B, 0, none⟩)] W _
  go_enter Try.func85, Try.ntmps85
  go_wp2
  go_ret
  exact ⟨rfl, by repeat (first | exact Below.refl _ _ | apply Below.drew)⟩
end
end Go.Proofs.Yteobbgofbedgdaa.Q
