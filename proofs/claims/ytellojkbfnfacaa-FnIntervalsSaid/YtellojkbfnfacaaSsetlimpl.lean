/- Parts of the proof, laid together: contracts and lemmas; no conditions beyond those written. -/
import Derived.Test.YtellojkbfnfacaaQx0
import Derived.Test.YtellojkbfnfacaaHsetOf
import Derived.Test.YtellojkbfnfacaaSsetldef
import Derived.Test.YtellojkbfnfacaaSsortl
import Derived.Test.YtellojkbfnfacaaSslidx
import Derived.Test.YtellojkbfnfacaaSbase
import Derived.BigQuiet
namespace Go.Proofs.Ytellojkbfnfacaa.Q
open Go.RowKit Go.Proofs.YtellojkbfnfacaaW.PrintWords Go.Proofs.YtellojkbfnfacaaW.PrintLast Go.Proofs.YtellojkbfnfacaaW.PrintMore
attribute [local go_sem] max2_int min2_int max_two min_two max_three min_three max_four min_four   -- for this text's walks alone
set_option linter.unusedVariables false
set_option linter.unusedSimpArgs false
section
theorem impl_setOf_f (l : List Int) (h : l.length ≤ 17592186044416) : impl_setOf.f l = some (setL l) := by unfold impl_setOf.f; rw [if_pos h]
end
section
def okUses (l : List Int) : Bool := (l.all okAddr) && decide (l.length ≤ 60)
theorem okUses_iff (l : List Int) : okUses l = true ↔ (∀ x ∈ l, 0 ≤ x ∧ x ≤ 63) ∧ l.length ≤ 60 := by
  simp [okUses, okAddr]
end
section
def crossB (x : List Int) (t : Int) : Bool := decide (rd x 0 < t) && decide (t < rd x 1)
def hbTo (U : List Int) (n : Int) (cuts : List Int) : Nat → Int
  | 0 => wrap64 (wrap64 (n - 1) * (cuts.length : Int))
  | j + 1 => if cuts.any (crossB ((ivs U).getD j [])) = true then hbTo U n cuts j else wrap64 (hbTo U n cuts j + 1)
end
section
theorem ivs_two {l : List Int} {n : Int} (h0 : 0 ≤ n) (h1 : n < ((ivs l).length : Int)) : ((ivs l).getD n.toNat []).length = 2 := by
  have hlt : n.toNat < (ivs l).length := by omega
  rw [List.getD_eq_getElem?_getD, List.getElem?_eq_getElem hlt, Option.getD_some]
  obtain ⟨i, j, e, _, _⟩ := ivs_mem (List.getElem_mem hlt)
  rw [e]; rfl
end
section
set_option maxHeartbeats 4000000 in
set_option maxRecDepth 100000 in
theorem between_calls (bx : Nat) (A : Option Addr) (c : Nat) (iv : List (List Int)) (W : World) (hbx : W.cell? ⟨bx, 0, none⟩ = some (.slice A iv.length c)) (hC : Kd.C (Kd.slice 2 (Kd.int .i64)) W A iv.length iv) (h2 : ∀ i : Nat, i < iv.length → (rd_L2 iv (i : Int)).length = 2) (hl : iv.length ≤ 60) (a b : Int) :
    Calls Try.prog 40 #[.int .i64 a, .int .i64 b, .pointer (some ⟨bx, 0, none⟩)] W fun e W' => e = .returned (.int .i64 (btI iv a b : Nat)) ∧ Below W.heap.size W W' := by
  have HC := Aside0.mk hC
  have H2 := Aside0.mk h2
  have HL := Aside0.mk hl
  have HBX := Aside0.mk hbx
  obtain ⟨n, hn⟩ : ∃ n, n = iv.length := ⟨_, rfl⟩
  rw [← hn] at hbx
  have HN := Aside0.mk hn
  clear hC h2 hl hn
  go_enter Try.func40, Try.ntmps40
  go_wp2_with (fail)
  go_loopg [6, 11] n (fun gg s6 s11 wr => ∃ i : Nat, s11 = .int .i64 i ∧ s6 = .int .i64 (btI (iv.take i) a b : Nat) ∧ Aside0 (i ≤ n ∧ n - i ≤ gg) ∧ Aside0 (Below W.heap.size W wr))
  case atStart => exact ⟨0, rfl, rfl, ⟨⟨Nat.zero_le _, by omega⟩⟩, ⟨Below.refl _ _⟩⟩
  case round =>
    obtain ⟨i, rfl, rfl, HK, HB⟩ := hrel
    by_cases hlt : i < n
    · have hltz : (i : Int) < (n : Int) := by omega
      have h0z : (0 : Int) ≤ (i : Int) := by omega
      have hlt2 : i < iv.length := by have := HN.out; omega
      obtain ⟨ad, Ax, cx, e, hx0, hcx, hCx⟩ := at_L2 HC.out (i : Int) h0z (by have := HN.out; omega)
      have hx1 := (HB.out.cell (World.block_lt_of_cell? _ _ hx0)).trans hx0
      simp only [Int.toNat_natCast] at hx1
      have hst := btI_succ iv a b i hlt2
      have hbl := btI_le (iv.take i) a b
      rw [List.length_take] at hbl
      have hX2 := H2.out i hlt2
      have hCW := Kd.C_below hCx HB.out
      obtain ⟨X, hX⟩ : ∃ X, X = rd_L2 iv (i : Int) := ⟨_, rfl⟩
      rw [← hX] at hx1 hst hX2 hCW
      obtain ⟨ad0, e0, hy0⟩ := Kd.at_int hCW 0 (by omega) (by omega)
      obtain ⟨ad1, e1, hy1⟩ := Kd.at_int hCW 1 (by omega) (by omega)
      rw [e0] at e1
      cases e1
      subst e0
      rw [show (0 : Int).toNat = 0 from rfl] at hy0
      have hy0' : wr.cell? ad0 = some (.int .i64 (rd X 0)) := by rw [← hy0]; congr 1
      rw [show (1 : Int).toNat = 1 from rfl] at hy1
      have hy1' : wr.cell? ⟨ad0.block, ad0.off + 1, none⟩ = some (.int .i64 (rd X 1)) := by rw [← hy1]; simp [Addr.add]
      rw [hX2] at hx1
      obtain ⟨q, hq⟩ : ∃ q, q = btI (iv.take i) a b := ⟨_, rfl⟩
      rw [← hq] at hst hbl
      rw [← hq]
      have HST := Aside0.mk hst
      have HQ := Aside0.mk (show q ≤ 60 by have := HN.out; have := HL.out; omega)
      have HI := Aside0.mk (show n ≤ 60 by have := HN.out; have := HL.out; omega)
      obtain ⟨x0, hx0e⟩ : ∃ x, x = rd X 0 := ⟨_, rfl⟩
      obtain ⟨x1, hx1e⟩ : ∃ x, x = rd X 1 := ⟨_, rfl⟩
      rw [← hx0e] at hy0 hy0' HST
      rw [← hx1e] at hy1 hy1' HST
      subst e
      clear hx0 hcx hCx hst hbl hX2 hCW hX hq hlt2 hx0e hx1e
      by_cases c0 : a ≤ x0
      · by_cases c1 : x1 ≤ b
        · have HS : Aside0 (btI (iv.take (i + 1)) a b = q + 1) := ⟨by rw [HST.out, if_pos ⟨c0, c1⟩]⟩
          go_wp2_with (fail)
          go_roundg (n - (i + 1))
          case measure => have := HK.out; omega
          case rel => exact ⟨i + 1, by have := HI.out; rw [wrap64_succ (by omega)], by rw [HS.out]; have := HQ.out; first | (rw [wrap64_succ (by omega)]; done) | rfl, ⟨by have := HK.out; omega⟩, ⟨HB.out⟩⟩
        · have HS : Aside0 (btI (iv.take (i + 1)) a b = q) := ⟨by rw [HST.out, if_neg (fun h => c1 h.2)]; rfl⟩
          go_wp2_with (fail)
          go_roundg (n - (i + 1))
          case measure => have := HK.out; omega
          case rel => exact ⟨i + 1, by have := HI.out; rw [wrap64_succ (by omega)], by rw [HS.out], ⟨by have := HK.out; omega⟩, ⟨HB.out⟩⟩
      · have HS : Aside0 (btI (iv.take (i + 1)) a b = q) := ⟨by rw [HST.out, if_neg (fun h => c0 h.1)]; rfl⟩
        go_wp2_with (fail)
        go_roundg (n - (i + 1))
        case measure => have := HK.out; omega
        case rel => exact ⟨i + 1, by have := HI.out; rw [wrap64_succ (by omega)], by rw [HS.out], ⟨by have := HK.out; omega⟩, ⟨HB.out⟩⟩
    · have hltz : ¬ (i : Int) < (n : Int) := by omega
      have hie : i = iv.length := by have := HK.out; have := HN.out; omega
      rw [hie, List.take_length]
      rw [hie] at hltz
      obtain ⟨q, hq⟩ : ∃ q, q = btI iv a b := ⟨_, rfl⟩
      rw [← hq]
      have HQ := Aside0.mk hq
      clear hie hq hlt
      go_wp2_with (fail)
      go_ret
      exact ⟨ret_int (by rw [HQ.out]), HB.out⟩
end
end Go.Proofs.Ytellojkbfnfacaa.Q
