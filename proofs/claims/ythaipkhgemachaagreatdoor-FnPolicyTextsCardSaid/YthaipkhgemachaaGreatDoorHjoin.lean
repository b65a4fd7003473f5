/- strings.Join joins texts; the texts are short enough for memory. -/
import Derived.Test.YthaipkhgemachaaGreatDoorQx0
import Derived.Test.YthaipkhgemachaaGreatDoorShelf
namespace Go.Proofs.YthaipkhgemachaaGreatDoor.Q
open Go.RowKit Go.Proofs.YthaipkhgemachaaGreatDoorW.PrintWords Go.Proofs.YthaipkhgemachaaGreatDoorW.PrintLast Go.Proofs.YthaipkhgemachaaGreatDoorW.PrintMore
attribute [local go_sem] max2_int min2_int max_two min_two max_three min_three max_four min_four   -- for this text's walks alone
set_option linter.unusedVariables false
set_option linter.unusedSimpArgs false

def joinS (l : List ByteArray) (s : ByteArray) : ByteArray := ⟨(Go.Lib.join (l.map (·.data.toList)) s.data.toList).toArray⟩
def strings_Join.f (l0 : List ByteArray) (a1 : ByteArray) : Option ByteArray := if l0.length ≤ 140737488355328 ∧ (Go.Lib.join (l0.map (·.data.toList)) a1.data.toList).length ≤ 140737488355328 then some (joinS l0 a1) else none
theorem addr_spot {w : World} {ad : Addr} {v : Value} (h : w.cell? ad = some v) : ad = ⟨ad.block, ad.off, none⟩ := by
  obtain ⟨b, o, s⟩ := ad
  cases s with
  | none => rfl
  | some s =>
    exfalso
    unfold World.cell? at h
    split at h
    · simp at h
    · cases h
theorem strings_Join.calls (A0 : Option Addr) (c0 : Nat) (l0 : List ByteArray) (a1 : ByteArray) (r : ByteArray) (w : World) (hr0 : Kd.string.C w A0 l0.length l0) (hc0 : l0.length ≤ c0) (h : strings_Join.f l0 a1 = some r) :
    Calls Tryz.prog 45 #[.slice A0 l0.length c0, .string a1] w fun e w' => e = .returned (.string r) ∧ Below w.heap.size w w' := by
  unfold strings_Join.f at h
  by_cases hb : l0.length ≤ 140737488355328 ∧ (Go.Lib.join (l0.map (·.data.toList)) a1.data.toList).length ≤ 140737488355328
  case neg => rw [if_neg hb] at h; cases h
  rw [if_pos hb] at h
  obtain rfl := Option.some.inj h
  by_cases h0 : l0.length = 0
  · have hnil : l0 = [] := List.eq_nil_of_length_eq_zero h0
    subst hnil
    refine (Tryz.strings_Join_none A0 c0 a1 w).mono ?_
    rintro e w' ⟨rfl, rfl⟩
    exact ⟨rfl, Below.refl _ _⟩
  · have key : ∀ (i : Int), 0 ≤ i → i < (l0.length : Int) → ∃ ad, A0 = some ad ∧ w.cell? (ad.add i.toNat) = some (.string (rdOf ByteArray.empty l0 i)) := fun i hi hi2 => Kd.at_string hr0 i hi (by omega)
    obtain ⟨ad, e, hx0⟩ := key 0 (by omega) (by omega)
    subst e
    have hs : ad = ⟨ad.block, ad.off, none⟩ := addr_spot (by rw [Int.toNat_zero, show ad.add 0 = ad by simp [Addr.add]] at hx0; exact hx0)
    have hbk : ad.block < w.heap.size := by
      have := World.block_lt_of_cell? w _ hx0
      rw [Int.toNat_zero, show ad.add 0 = ad by simp [Addr.add]] at this
      exact this
    have hcells : ∀ (j : Nat) x, l0[j]? = some x → w.cell? ⟨ad.block, ad.off + j, none⟩ = some (.string x) := by
      intro j x hj
      have hjl : j < l0.length := (List.getElem?_eq_some_iff.1 hj).1
      obtain ⟨ad2, e, hx⟩ := key (j : Int) (by omega) (by omega)
      cases e
      rw [Int.toNat_natCast] at hx
      have e1 : ad.add j = ⟨ad.block, ad.off + j, none⟩ := by
        unfold Addr.add
        by_cases hj0 : j = 0
        · rw [if_pos hj0, hj0]; exact hs
        · rw [if_neg hj0]
      rw [e1] at hx
      rw [hx]
      have e2 : rdOf ByteArray.empty l0 (j : Int) = x := by
        show l0.getD j _ = x
        rw [List.getD_eq_getElem?_getD, hj]; rfl
      rw [e2]
    rw [hs]
    exact Tryz.strings_Join ad.block ad.off c0 l0 a1 w hcells hbk hb.1 hc0 hb.2
end Go.Proofs.YthaipkhgemachaaGreatDoor.Q
