/- Parts of the proof, laid together: contracts and lemmas; no conditions beyond those written. -/
import Derived.Test.YtellojkbfnfacaaQx0
import Derived.Test.YtellojkbfnfacaaSsortl
import Derived.Lib.SlicesCompact
import Derived.Test.YtellojkbfnfacaaHconcat
import Derived.Test.YtellojkbfnfacaaScutdef
import Derived.Test.YtellojkbfnfacaaSbase
import Derived.Shelf.Abstract
namespace Go.Proofs.Ytellojkbfnfacaa.Q
open Go.RowKit Go.Proofs.YtellojkbfnfacaaW.PrintWords Go.Proofs.YtellojkbfnfacaaW.PrintLast Go.Proofs.YtellojkbfnfacaaW.PrintMore
attribute [local go_sem] max2_int min2_int max_two min_two max_three min_three max_four min_four   -- for this text's walks alone
set_option linter.unusedVariables false
set_option linter.unusedSimpArgs false
section
/-- The numbers of a list, sorted, each once. -/
def setL (l : List Int) : List Int := Go.Lib.compact (sortL l)
theorem compact_len (l : List Int) : (Go.Lib.compact l).length ≤ l.length := by
  unfold Go.Lib.compact Go.Lib.compactUpTo
  rw [List.length_map]
  have := List.length_filter_le (Go.Lib.keeps l.toArray) (List.range l.length)
  simpa using this
end
section
/-- What has come when k rounds are over. -/
def upto (f : Nat → Int) (k : Nat) : List Int := (List.range k).map f
theorem upto_succ (f : Nat → Int) (k : Nat) : upto f (k + 1) = upto f k ++ [f k] := by simp [upto, List.range_succ]
theorem upto_length (f : Nat → Int) (k : Nat) : (upto f k).length = k := by simp [upto]
theorem upto_all (zs : List Int) : upto (fun j => zs[j]?.getD 0) zs.length = zs := by
  apply List.ext_getElem
  · simp [upto]
  · intro i h1 h2
    simp [upto, h2]
end
section
theorem cat_call (x : Int) (X : List Int) (A8 : Option Addr) (c8 : Nat) (W : World) (g gx : Nat) (h1 : W.heap[g]? = some (.cells #[.slice (some ⟨gx, 0, none⟩) 1 1, .slice A8 X.length c8] 24 (0, 0))) (h2 : W.heap[gx]? = some (.cells #[.int .i64 x] 2 (0, 0))) (hX : Kd.C (Kd.int .i64) W A8 X.length X) (hc : X.length ≤ c8) (hl : X.length ≤ 100) :
    Calls Try.prog 41 #[.slice (some ⟨g, 0, none⟩) 2 2] W fun e w' => ∃ v0_ : Value, e = .returned v0_ ∧ Kd.R (Kd.int .i64) 2 w' W.heap.size (fun _ => True) v0_ (x :: X) ∧ Below W.heap.size W w' := by
  have hx1 : Kd.C (Kd.int .i64) W (some ⟨gx, 0, none⟩) [x].length [x] := by
    refine ⟨rfl, by simp, fun _ => ⟨⟨gx, 0, none⟩, rfl, fun j p hj => ?_⟩⟩
    match j, hj with
    | 0, hj =>
      obtain rfl : x = p := by simpa using hj
      refine ⟨[.int .i64 x], rfl, rfl, fun i u hu => ?_⟩
      match i, hu with
      | 0, hu =>
        obtain rfl : Value.int .i64 x = u := by simpa using hu
        rw [show 0 * (Kd.int .i64).sz + 0 = 0 by rw [Nat.zero_mul], show (⟨gx, 0, none⟩ : Addr).add 0 = ⟨gx, 0, none⟩ from rfl, blk_cell h2]; rfl
  have hrows := two_rows (x := [x]) (y := X) (Ax := some ⟨gx, 0, none⟩) (cx := 1) h1 hx1 (Nat.le_refl _) hX hc
  exact slices_Concat_int64_int64.calls (some ⟨g, 0, none⟩) 2 [[x], X] (x :: X) W hrows (Nat.le_refl _) (by unfold slices_Concat_int64_int64.f; rw [if_pos (by simp; omega)]; simp)
end
section
/-- The greatest by a comparison; of equals the first. -/
def maxTo (cf : Int → Int → Int) (l : List Int) : Nat → Int
  | 0 => rd l 0
  | t + 1 => if 0 < cf (rd l ((t + 1 : Nat) : Int)) (maxTo cf l t) then rd l ((t + 1 : Nat) : Int) else maxTo cf l t
def maxBy (cf : Int → Int → Int) (l : List Int) : Int := maxTo cf l (l.length - 1)
theorem rd_mem (l : List Int) (i : Nat) (h : i < l.length) : rd l (i : Int) ∈ l := by
  rw [rd_lt l i h]; exact List.getElem_mem h
theorem maxTo_mem (cf : Int → Int → Int) (l : List Int) (t : Nat) (h : t < l.length) : maxTo cf l t ∈ l := by
  induction t with
  | zero => exact rd_mem l 0 h
  | succ t ih =>
    unfold maxTo
    split
    · exact rd_mem l (t + 1) h
    · exact ih (by omega)
/-- What is asked of a comparison that is handed to the library. -/
def CmpI (g : Nat) (lb : Array Value) (l : List Int) (cf : Int → Int → Int) (w : World) : Prop :=
  ∀ (W : World) (x y : Int), Below w.heap.size w W → x ∈ l → y ∈ l → Calls Try.prog g (#[.int .i64 x, .int .i64 y] ++ lb) W fun e w' => e = .returned (.int .i64 (cf x y)) ∧ Below W.heap.size W w'
set_option maxHeartbeats 4000000 in
set_option maxRecDepth 100000 in
theorem slices_MaxFunc_i64 (g : Nat) (lb : Array Value) (eg : ∀ args w, (callFunc g args).run Try.prog w = .ok (.enter g args) w) (cf : Int → Int → Int) (A : Option Addr) (c : Nat) (l : List Int) (w : World) (h0 : 0 < l.length) (hr : Kd.C (Kd.int .i64) w A l.length l) (hp : CmpI g lb l cf w) :
    Calls Try.prog 69 #[.slice A l.length c, .func (.func g) #[] lb] w fun e w' => e = .returned (.int .i64 (maxBy cf l)) ∧ Below w.heap.size w w' := by
  have HR := Aside0.mk hr
  have HP := Aside0.mk hp
  have hn : l.length ≤ 9223372036854775807 := hr.2.1
  have hz0 : (0 : Int) < (l.length : Int) := by omega
  have hz1 : ¬ (l.length : Int) < 1 := by omega
  obtain ⟨ad, e, hx0⟩ := Kd.at_int hr 0 (by omega) (by omega)
  cases e
  clear hr hp
  simp only [Int.reduceToNat] at hx0
  rw [show ad.add 0 = ad from by simp [Addr.add]] at hx0
  go_enter Try.func69, Try.ntmps69
  go_wp2
  go_loopg [5, 6] l.length (fun gg s5 s6 wr => ∃ (t : Nat) (m : Int), s5 = .int .i64 m ∧ s6 = .int .i64 ((t + 1 : Nat) : Int) ∧ Aside0 (t + 1 ≤ l.length ∧ l.length - (t + 1) ≤ gg) ∧ Aside0 (Below w.heap.size w wr) ∧ Aside0 (m = maxTo cf l t))
  case atStart => exact ⟨0, rd l 0, rfl, rfl, ⟨⟨by omega, by omega⟩⟩, ⟨Below.refl _ _⟩, ⟨rfl⟩⟩
  case round =>
    clear hx0 hz1
    obtain ⟨t, m, rfl, rfl, HK, HB, HM⟩ := hrel
    have hK := HK.out
    by_cases hlt : t + 1 < l.length
    · have hltz : ((t + 1 : Nat) : Int) < (l.length : Int) := by omega
      have h0z : (0 : Int) ≤ ((t + 1 : Nat) : Int) := by omega
      obtain ⟨ad2, e2, hx⟩ := Kd.at_int HR.out ((t + 1 : Nat) : Int) h0z hltz
      cases e2
      simp only [Int.toNat_natCast] at hx
      have hcell := (HB.out.cell (World.block_lt_of_cell? w _ hx)).trans hx
      clear hx
      have hmem := rd_mem l (t + 1) hlt
      have hmm : m ∈ l := by rw [HM.out]; exact maxTo_mem cf l t (by omega)
      have hcall := HP.out wr (rd l ((t + 1 : Nat) : Int)) m HB.out hmem hmm
      have hst : maxTo cf l (t + 1) = if 0 < cf (rd l ((t + 1 : Nat) : Int)) m then rd l ((t + 1 : Nat) : Int) else m := by rw [HM.out]; rfl
      have HST := Aside0.mk hst
      obtain ⟨i, hi⟩ : ∃ i, i = t + 1 := ⟨_, rfl⟩
      rw [← hi] at hcell hcall hltz h0z HST ⊢
      have HI := Aside0.mk hi
      clear hmem hmm hst hi hK
      obtain ⟨y, hy⟩ : ∃ y, y = rd l (i : Int) := ⟨_, rfl⟩
      rw [← hy] at hcell hcall HST
      clear hy
      obtain ⟨q, hq⟩ : ∃ q, q = cf y m := ⟨_, rfl⟩
      rw [← hq] at hcall HST
      clear hq
      by_cases hc : 0 < q
      · have HS2 : Aside0 (maxTo cf l i = y) := ⟨by rw [HST.out, if_pos hc]⟩
        clear HST
        go_wp2_with (go_at_fn g; refine hcall.mono ?_; rintro e w' ⟨rfl, hb⟩; have hcell2 := (hb.cell (World.block_lt_of_cell? _ _ hcell)).trans hcell; have HB1 := Aside0.mk (below_step HB.out hb); clear hb)
        go_roundg (l.length - (i + 1))
        case measure => have := HK.out; have := HI.out; omega
        case rel => exact ⟨i, y, rfl, by go_num, ⟨by have := HI.out; omega⟩, HB1, ⟨HS2.out.symm⟩⟩
      · have HS2 : Aside0 (maxTo cf l i = m) := ⟨by rw [HST.out, if_neg hc]⟩
        clear HST
        go_wp2_with (go_at_fn g; refine hcall.mono ?_; rintro e w' ⟨rfl, hb⟩; have HB1 := Aside0.mk (below_step HB.out hb); clear hb)
        go_roundg (l.length - (i + 1))
        case measure => have := HK.out; have := HI.out; omega
        case rel => exact ⟨i, m, rfl, by go_num, ⟨by have := HI.out; omega⟩, HB1, ⟨HS2.out.symm⟩⟩
    · have hltz : ¬ ((t + 1 : Nat) : Int) < (l.length : Int) := by omega
      have HM2 : Aside0 (maxBy cf l = m) := ⟨by unfold maxBy; rw [HM.out, show l.length - 1 = t by omega]⟩
      clear hK hlt
      obtain ⟨i, hi⟩ : ∃ i, i = t + 1 := ⟨_, rfl⟩
      rw [← hi] at hltz ⊢
      go_wp2
      go_ret
      exact ⟨ret_int HM2.out.symm, HB.out⟩
end
end Go.Proofs.Ytellojkbfnfacaa.Q
