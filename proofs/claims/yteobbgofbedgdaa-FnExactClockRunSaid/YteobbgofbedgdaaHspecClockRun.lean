/- spec.ClockRun runs the clock; the trace is short enough. -/
import Derived.Test.YteobbgofbedgdaaQx0
import Derived.Test.YteobbgofbedgdaaHValidTrace
import Derived.Test.YteobbgofbedgdaaHimplClockRun
import Derived.Test.YteobbgofbedgdaaQx1
import Derived.Test.YteobbgofbedgdaaSbase
import Derived.Test.YteobbgofbedgdaaSclockdef
import Derived.Test.YteobbgofbedgdaaSown
import Derived.Test.YteobbgofbedgdaaStraces
namespace Go.Proofs.Yteobbgofbedgdaa.Q
open Go.RowKit Go.Proofs.YteobbgofbedgdaaW.PrintWords Go.Proofs.YteobbgofbedgdaaW.PrintLast Go.Proofs.YteobbgofbedgdaaW.PrintMore
attribute [local go_sem] max2_int min2_int max_two min_two max_three min_three max_four min_four   -- for this text's walks alone
set_option linter.unusedVariables false
set_option linter.unusedSimpArgs false

/-- A row of bools, one for each frame that may be. -/
def mkA (f : CF → Bool) (fr : Nat) (H : List CF) : Array Value := ((List.range fr).map fun i => Value.bool (f (rdC H i))).toArray
theorem mkA_size (f : CF → Bool) (fr : Nat) (H : List CF) : (mkA f fr H).size = fr := by simp [mkA]
theorem mkA_get (f : CF → Bool) (fr : Nat) (H : List CF) (i : Nat) (hi : i < fr) : (mkA f fr H)[i]? = some (.bool (f (rdC H i))) := by
  simp [mkA, hi]
theorem mkA_made (f : CF → Bool) (fr : Nat) (h0 : f (0, false, false) = false) : madeCells #[.bool false] fr = mkA f fr [] := by
  apply Array.ext
  · simp [mkA, madeCells]
  · intro i h1 h2
    simp [mkA, madeCells, Nat.mod_one, rdC, h0]
theorem rdC_set2 (H : List CF) (i j : Nat) (h : i < H.length) (x : CF) : rdC (H.set i x) j = if j = i then x else rdC H j := by
  unfold rdC
  rw [List.getD_eq_getElem?_getD, List.getD_eq_getElem?_getD, List.getElem?_set]
  by_cases e : j = i
  · subst e
    rw [if_pos rfl, if_pos h, if_pos rfl]; rfl
  · rw [if_neg (fun e2 => e e2.symm), if_neg e]
theorem mkA_set (f : CF → Bool) (fr : Nat) (H : List CF) (i : Nat) (h : i < H.length) (x : CF) (b : Bool) (hb : f x = b) : (mkA f fr H).setIfInBounds i (.bool b) = mkA f fr (H.set i x) := by
  apply Array.ext_getElem?
  intro j
  by_cases hj : j < fr
  · rw [Array.getElem?_setIfInBounds, mkA_get f fr _ j hj, mkA_get f fr _ j hj, rdC_set2 H i j h x, mkA_size]
    by_cases e : j = i
    · subst e
      rw [if_pos rfl, if_pos rfl, if_pos hj, hb]
    · rw [if_neg (fun e2 => e e2.symm), if_neg e]
  · rw [Array.getElem?_eq_none (by simp [mkA_size]; omega), Array.getElem?_eq_none (by simp [mkA_size]; omega)]
theorem mkA_same (f : CF → Bool) (fr : Nat) (H K : List CF) (h : ∀ j, f (rdC H j) = f (rdC K j)) : mkA f fr H = mkA f fr K := by
  unfold mkA
  simp only [h]
theorem rdC_snoc (H : List CF) (a : Int) (j : Nat) : (rdC (H ++ [(a, false, false)]) j).2 = (rdC H j).2 := by
  unfold rdC
  rw [List.getD_eq_getElem?_getD, List.getD_eq_getElem?_getD]
  by_cases h : j < H.length
  · rw [List.getElem?_append_left h]
  · rw [List.getElem?_append_right (by omega), List.getElem?_eq_none (l := H) (by omega)]
    by_cases e : j - H.length = 0
    · rw [e]; rfl
    · rw [List.getElem?_eq_none (by simp; omega)]
abbrev fMk : CF → Bool := fun f => f.2.1
abbrev fWr : CF → Bool := fun f => f.2.2
/-- Pages, marks, writings and faults while the clock runs. -/
structure ClkS (w W : World) (gM gW gP cP fr : Nat) (vL : Value) (H : List CF) (L : List Int) : Prop where
  rP : Kd.R (Kd.int .i64) 2 W w.heap.size (fun _ => True) (.slice (some ⟨gP, 0, none⟩) H.length cP) (H.map (·.1))
  rL : Kd.R (Kd.int .i64) 2 W w.heap.size (fun _ => True) vL L
  bM : W.heap[gM]? = some (.cells (mkA fMk fr H) 4 (0, 0))
  bW : W.heap[gW]? = some (.cells (mkA fWr fr H) 4 (0, 0))
  ne : vL.ownBlock ≠ some gP
  bel : Below w.heap.size w W
  far : w.heap.size ≤ gM ∧ w.heap.size ≤ gW ∧ gM ≠ gW
section
variable {w W W' : World} {gM gW gP cP fr : Nat} {vL : Value} {H : List CF} {L : List Int}
theorem ClkS.below (h : ClkS w W gM gW gP cP fr vL H L) (hb : Below W.heap.size W W') : ClkS w W' gM gW gP cP fr vL H L :=
  ⟨Kd.R_below h.rP hb, Kd.R_below h.rL hb, blk_below h.bM hb, blk_below h.bW hb, h.ne, below_step h.bel hb, h.far⟩
theorem ClkS.mark (h : ClkS w W gM gW gP cP fr vL H L) (q : Nat) (hq : q < H.length) (b : Bool) : ClkS w (W.setCell ⟨gM, q, none⟩ (.bool b)) gM gW gP cP fr vL (H.set q ((rdC H q).1, b, (rdC H q).2.2)) L := by
  refine ⟨?_, Kd.R_set h.rL h.bM (by decide) q _, ?_, ?_, h.ne, h.bel.setCell (p := ⟨gM, q, none⟩) (by show w.heap.size ≤ gM; exact h.far.1) _, h.far⟩
  · have h1 := Kd.R_set h.rP h.bM (by decide) q (.bool b)
    have e : (H.set q ((rdC H q).1, b, (rdC H q).2.2)).map (·.1) = H.map (·.1) := by
      rw [List.map_set]
      apply List.ext_getElem?
      intro j
      rw [List.getElem?_set]
      by_cases e : q = j
      · subst e
        rw [if_pos rfl, if_pos (by rw [List.length_map]; exact hq), List.getElem?_map, List.getElem?_eq_getElem hq, rdC_lt H q hq]; rfl
      · rw [if_neg e]
    rw [e, List.length_set]
    exact h1
  · have h1 := blk_set h.bM q (.bool b)
    rwa [mkA_set fMk fr H q hq ((rdC H q).1, b, (rdC H q).2.2) b rfl] at h1
  · have h1 := blk_far h.bW (p := ⟨gM, q, none⟩) (Ne.symm h.far.2.2) (.bool b)
    rw [mkA_same fWr fr H (H.set q ((rdC H q).1, b, (rdC H q).2.2)) (fun j => by rw [rdC_set2 H q j hq]; split; (rename_i e; rw [e]); rfl)] at h1
    exact h1
theorem ClkS.write (h : ClkS w W gM gW gP cP fr vL H L) (q : Nat) (hq : q < H.length) (b : Bool) : ClkS w (W.setCell ⟨gW, q, none⟩ (.bool b)) gM gW gP cP fr vL (H.set q ((rdC H q).1, (rdC H q).2.1, b)) L := by
  refine ⟨?_, Kd.R_set h.rL h.bW (by decide) q _, ?_, ?_, h.ne, h.bel.setCell (p := ⟨gW, q, none⟩) (by show w.heap.size ≤ gW; exact h.far.2.1) _, h.far⟩
  · have h1 := Kd.R_set h.rP h.bW (by decide) q (.bool b)
    have e : (H.set q ((rdC H q).1, (rdC H q).2.1, b)).map (·.1) = H.map (·.1) := by
      rw [List.map_set]
      apply List.ext_getElem?
      intro j
      rw [List.getElem?_set]
      by_cases e : q = j
      · subst e
        rw [if_pos rfl, if_pos (by rw [List.length_map]; exact hq), List.getElem?_map, List.getElem?_eq_getElem hq, rdC_lt H q hq]; rfl
      · rw [if_neg e]
    rw [e, List.length_set]
    exact h1
  · have h1 := blk_far h.bM (p := ⟨gW, q, none⟩) h.far.2.2 (.bool b)
    rw [mkA_same fMk fr H (H.set q ((rdC H q).1, (rdC H q).2.1, b)) (fun j => by rw [rdC_set2 H q j hq]; split; (rename_i e; rw [e]); rfl)] at h1
    exact h1
  · have h1 := blk_set h.bW q (.bool b)
    rwa [mkA_set fWr fr H q hq ((rdC H q).1, (rdC H q).2.1, b) b rfl] at h1
theorem ClkS.page (h : ClkS w W gM gW gP cP fr vL H L) (q : Nat) (hq : q < H.length) (a : Int) : ClkS w (W.setCell ⟨gP, q, none⟩ (.int .i64 a)) gM gW gP cP fr vL (H.set q (a, (rdC H q).2)) L := by
  have h1 := Kd.R_putg h.rP (q : Int) a
  rw [Int.toNat_natCast] at h1
  obtain ⟨cells, hc⟩ := Kd.R_typed h.rP gP rfl
  have hM : gM ≠ gP := fun e => by rw [← e, h.bM] at hc; injection hc with hc; injection hc with _ hc; exact absurd hc (by decide)
  have hW : gW ≠ gP := fun e => by rw [← e, h.bW] at hc; injection hc with hc; injection hc with _ hc; exact absurd hc (by decide)
  have hb : w.heap.size ≤ gP := Kd.R_base h.rP gP rfl
  refine ⟨?_, Kd.R_grown (Kd.R_mono (Kd.R_tight rfl h.rL) (ok' := fun k => some k = vL.ownBlock) (fun _ hk => hk)) h1.2 (fun k hk e => h.ne (hk.symm.trans e)) |> fun hr => Kd.R_mono hr (fun _ _ => trivial), ?_, ?_, h.ne, h.bel.setCell (p := ⟨gP, q, none⟩) (by show w.heap.size ≤ gP; exact hb) _, h.far⟩
  · rw [List.length_set, List.map_set]
    exact h1.1
  · rw [← mkA_same fMk fr H (H.set q (a, (rdC H q).2)) (fun j => by rw [rdC_set2 H q j hq]; split; (rename_i e; rw [e]); rfl)]
    exact blk_far h.bM (p := ⟨gP, q, none⟩) hM _
  · rw [← mkA_same fWr fr H (H.set q (a, (rdC H q).2)) (fun j => by rw [rdC_set2 H q j hq]; split; (rename_i e; rw [e]); rfl)]
    exact blk_far h.bW (p := ⟨gP, q, none⟩) hW _
theorem ClkS.app {w1 : World} {v1 : Value} {L1 : List Int} (h : ClkS w W gM gW gP cP fr vL H L) (ho : Kd.R (Kd.int .i64) 2 w1 w.heap.size (fun _ => True) v1 L1) (hb : Below w.heap.size w w1) (hg : W.grownBy w1 vL.ownBlock) (hat : v1.ownBlock = vL.ownBlock ∨ ∃ b, v1.ownBlock = some b ∧ W.heap.size ≤ b) : ClkS w w1 gM gW gP cP fr v1 H L1 := by
  obtain ⟨cells, hc⟩ := Kd.R_typed h.rP gP rfl
  have hlt := (Array.getElem?_eq_some_iff.1 hc).1
  refine ⟨Kd.R_mono (Kd.R_grown (Kd.R_tight rfl h.rP) hg (fun k hk e => h.ne (e.symm.trans hk))) (fun _ _ => trivial), ho, blk_grown h.bM hg (Kd.R_ne h.rL h.bM (by decide)), blk_grown h.bW hg (Kd.R_ne h.rL h.bW (by decide)), ?_, hb, h.far⟩
  rcases hat with e | ⟨b, e, hb2⟩
  · rw [e]; exact h.ne
  · rw [e]; intro e2; injection e2 with e2; omega
theorem ClkS.more {w1 : World} {v1 : Value} {a : Int} (h : ClkS w W gM gW gP cP fr vL H L) (ho : Kd.R (Kd.int .i64) 2 w1 w.heap.size (fun _ => True) v1 (H.map (·.1) ++ [a])) (hb : Below w.heap.size w w1) (hg : W.grownBy w1 (Value.slice (some ⟨gP, 0, none⟩) H.length cP).ownBlock) (hat : v1.ownBlock = (Value.slice (some ⟨gP, 0, none⟩) H.length cP).ownBlock ∨ ∃ b, v1.ownBlock = some b ∧ W.heap.size ≤ b) : ∃ g' c', v1 = .slice (some ⟨g', 0, none⟩) (H.length + 1) c' ∧ ClkS w w1 gM gW g' c' fr vL (H ++ [(a, false, false)]) L := by
  have hln : (H.map (·.1) ++ [a]).length = H.length + 1 := by rw [List.length_append, List.length_map, List.length_singleton]
  obtain ⟨A, c', ev, _, _⟩ := Kd.R_reads ho
  rw [hln] at ev
  subst ev
  have hne : vL.ownBlock ≠ some gP := h.ne
  have hLlt : ∀ k, vL.ownBlock = some k → k < W.heap.size := fun k hk => by
    obtain ⟨cells, hc⟩ := Kd.R_typed h.rL k hk
    exact (Array.getElem?_eq_some_iff.1 hc).1
  cases A with
  | none =>
    obtain ⟨_, inner, ⟨_, ho2⟩, _⟩ := ho
    rcases ho2 with ⟨_, h0⟩ | ⟨g, cap, cur, hv, _⟩
    · rw [hln] at h0; exact absurd h0 (by omega)
    · cases hv
  | some ad =>
    obtain ⟨g', rfl⟩ := Kd.R_head ho
    have hgp : gP < W.heap.size := by
      obtain ⟨cells, hc⟩ := Kd.R_typed h.rP gP rfl
      exact (Array.getElem?_eq_some_iff.1 hc).1
    refine ⟨g', c', rfl, ⟨?_, Kd.R_mono (Kd.R_grown (Kd.R_tight rfl h.rL) hg (fun k hk e => hne (hk.symm.trans e))) (fun _ _ => trivial), ?_, ?_, ?_, hb, h.far⟩⟩
    · rw [List.length_append, List.length_singleton, List.map_append, List.map_singleton]
      exact ho
    · rw [← mkA_same fMk fr H _ (fun j => by show (rdC H j).2.1 = (rdC (H ++ [(a, false, false)]) j).2.1; rw [rdC_snoc])]
      exact blk_grown h.bM hg (Kd.R_ne h.rP h.bM (by decide))
    · rw [← mkA_same fWr fr H _ (fun j => by show (rdC H j).2.2 = (rdC (H ++ [(a, false, false)]) j).2.2; rw [rdC_snoc])]
      exact blk_grown h.bW hg (Kd.R_ne h.rP h.bW (by decide))
    · intro e
      rcases hat with e2 | ⟨b, e2, hb2⟩
      · have : g' = gP := by simpa [Value.ownBlock] using e2
        subst this
        exact hne e
      · have : g' = b := by simpa [Value.ownBlock] using e2
        subst this
        have := hLlt g' e
        omega
end
theorem infoSB : (Try.prog.info? 4).map (fun i => (i.zero, i.size, i.bytes)) = some (some (.bool false), 1, 1) := by kernel_rfl
theorem infoSI : (Try.prog.info? 2).map (fun i => (i.zero, i.size, i.bytes)) = some (some (.int .i64 0), 1, 8) := by kernel_rfl
theorem findIdx_at (H : List CF) (a : Int) (k : Nat) (hk : k ≤ H.length) (hb : ∀ j, (hj : j < k) → (H[j]'(by omega)).1 ≠ a) (he : k = H.length ∨ ∃ h : k < H.length, (H[k]'h).1 = a) : H.findIdx (fun f => f.1 == a) = k := by
  rcases he with rfl | ⟨h, e⟩
  · exact List.findIdx_eq_length.2 fun x hx => by
      obtain ⟨j, hj, rfl⟩ := List.getElem_of_mem hx
      exact beq_eq_false_iff_ne.2 (hb j hj)
  · exact (List.findIdx_eq h).2 ⟨beq_iff_eq.2 e, fun j hj => beq_eq_false_iff_ne.2 (hb j hj)⟩
set_option maxHeartbeats 16000000 in
set_option maxRecDepth 100000 in
theorem spec_ClockRun_run (fr : Nat) (A1 : Option Addr) (c1 : Nat) (l1 : List S60) (w : World) (hr1 : Kd.C k60 w A1 l1.length l1) (hc1 : l1.length ≤ c1) (h0 : 1 ≤ fr ∧ fr ≤ 16) (hok : okTrace l1 = true) (kT : Nat) (hT : spec_l02Is.f kT l1 = some true) :
    Calls Try.prog 12 #[.int .i64 (fr : Int), .slice A1 l1.length c1] w fun e w' => ∃ v, e = .returned (.tuple #[v, .int .i64 (runC fr l1 l1.length).2.2, .bool true]) ∧ Kd.R (Kd.int .i64) 2 w' w.heap.size (fun _ => True) v (runC fr l1 l1.length).2.1 ∧ Below w.heap.size w w' := by
  have hin : spec_l00In.f (fr : Int) 1 16 = some true := by
    unfold spec_l00In.f
    rw [if_pos (by omega)]
    simp; omega
  have HIN := Aside0.mk hin
  have HT := Aside0.mk hT
  have HRA := Aside0.mk hr1
  have HCA := Aside0.mk hc1
  have H60 := Aside0.mk (okTrace_acc hok).1
  have HFR := Aside0.mk h0
  have hmk := print_make_of (P := Try.prog) 58 4 (.bool false) 1 Try.underlying58 infoSB rfl (by decide) fr (by omega)
  clear hin hr1 hc1 hok hT
  go_enter Try.func12, Try.ntmps12
  go_wp2_with (first
    | (go_at_call 42; (with_reducible refine (spec_l00In.calls (fr : Int) 1 16 true _ HIN.out).mono ?_); rintro e w2 ⟨rfl, ⟨nd2, hw2⟩⟩; have hb2 : Below w.heap.size w w2 := below_at hw2.symm (Below.refl w.heap.size w); have HB2 := Aside0.mk hb2; clear hw2 hb2)
    | (go_at_call 43; (with_reducible refine (spec_l02Is.calls kT A1 c1 l1 true _ (Kd.C_below HRA.out HB2.out) HCA.out HT.out).mono ?_); rintro e w3 ⟨rfl, ⟨nd3, hw3⟩⟩; have hb3 : Below w2.heap.size w2 w3 := below_at hw3.symm (Below.refl w2.heap.size w2); have HB3 := Aside0.mk (below_step HB2.out hb3); clear hw3 hb3))
  have HS0 : Aside0 (ClkS w ((((w3.alloc (.cells #[] 2)).alloc (.cells (madeCells #[.bool false] fr) 4)).alloc (.cells (madeCells #[.bool false] fr) 4)).alloc (.cells #[] 2)) (w3.heap.size + 1) (w3.heap.size + 1 + 1) w3.heap.size 0 fr (.slice (some ⟨w3.heap.size + 1 + 1 + 1, 0, none⟩) 0 0) [] []) := ⟨by
    have hz := HB3.out.size
    have ho := own_lit w3 w.heap.size 2 .i64 [] hz (by simp)
    have hr := R_of_own ho
    have z1 : (w3.alloc (.cells #[] 2)).heap.size = w3.heap.size + 1 := by simp
    have z2 : ((w3.alloc (.cells #[] 2)).alloc (.cells (madeCells #[.bool false] fr) 4)).heap.size = w3.heap.size + 1 + 1 := by simp
    have z3 : (((w3.alloc (.cells #[] 2)).alloc (.cells (madeCells #[.bool false] fr) 4)).alloc (.cells (madeCells #[.bool false] fr) 4)).heap.size = w3.heap.size + 1 + 1 + 1 := by simp
    have hM := blk_new (w3.alloc (.cells #[] 2)) (.cells (madeCells #[.bool false] fr) 4)
    have hW := blk_new ((w3.alloc (.cells #[] 2)).alloc (.cells (madeCells #[.bool false] fr) 4)) (.cells (madeCells #[.bool false] fr) 4)
    have ho2 := own_lit (((w3.alloc (.cells #[] 2)).alloc (.cells (madeCells #[.bool false] fr) 4)).alloc (.cells (madeCells #[.bool false] fr) 4)) w.heap.size 2 .i64 [] (by omega) (by simp)
    have hr2 := R_of_own ho2
    rw [z1] at hM
    rw [z2] at hW
    rw [z3] at hr2
    refine ⟨Kd.R_alloc (Kd.R_alloc (Kd.R_alloc (by simpa [nums] using hr) _) _) _, by simpa [nums] using hr2, ?_, ?_, by simp [Value.ownBlock]; omega, below_alloc (below_alloc (below_alloc (below_alloc HB3.out _) _) _) _, ⟨by omega, by omega, by omega⟩⟩
    · rw [← mkA_made fMk fr rfl]; exact blk_alloc (blk_alloc hM _) _
    · rw [← mkA_made fWr fr rfl]; exact blk_alloc hW _⟩
  go_loopg [7, 10, 11, 12, 13] l1.length (fun gg s7 s10 s11 s12 s13 wr => ∃ (i gP cP cL : Nat) (AL : Option Addr) (H : List CF) (p : Nat) (L : List Int) (bk : Int), s7 = .slice (some ⟨gP, 0, none⟩) H.length cP ∧ s10 = .int .i64 p ∧ s11 = .slice AL L.length cL ∧ s12 = .int .i64 bk ∧ s13 = .int .i64 i ∧ Aside0 (i ≤ l1.length ∧ l1.length - i ≤ gg) ∧ Aside0 (runC fr l1 i = ((H, p), L, bk)) ∧ Aside0 (ClkS w wr (w3.heap.size + 1) (w3.heap.size + 1 + 1) gP cP fr (.slice AL L.length cL) H L) ∧ Aside0 (L.length = i ∧ H.length ≤ fr ∧ (p < H.length ∨ p = 0) ∧ 0 ≤ bk ∧ bk ≤ i))
  case atStart => exact ⟨0, _, _, _, _, [], 0, [], 0, rfl, rfl, rfl, rfl, rfl, ⟨⟨Nat.zero_le _, by omega⟩⟩, ⟨rfl⟩, ⟨HS0.out⟩, ⟨⟨rfl, Nat.zero_le _, .inr rfl, by omega, by omega⟩⟩⟩
  case round =>
    clear HS0 hmk
    obtain ⟨i, gP, cP, cL, AL, H, p, L, bk, rfl, rfl, rfl, rfl, rfl, HK, HRC, HS, HLN⟩ := hrel
    obtain ⟨wo, rfl⟩ : ∃ wo, wo = wr := ⟨_, rfl⟩
    by_cases hlt : i < l1.length
    · have hltz : (i : Int) < (l1.length : Int) := by omega
      have h0z : (0 : Int) ≤ (i : Int) := by omega
      obtain ⟨ad, e, hx, hx1⟩ := at_T60 HRA.out (i : Int) h0z hltz
      cases e
      simp only [Int.toNat_natCast] at hx hx1
      have HNX : Aside0 (runC fr l1 (i + 1) = ((stepC fr H p (rd_T60 l1 (i : Int)).f0 (rd_T60 l1 (i : Int)).f1).1, L ++ [(stepC fr H p (rd_T60 l1 (i : Int)).f0 (rd_T60 l1 (i : Int)).f1).2.1], bk + (stepC fr H p (rd_T60 l1 (i : Int)).f0 (rd_T60 l1 (i : Int)).f1).2.2)) := ⟨by show (_, _, _) = _; rw [HRC.out]⟩
      obtain ⟨kd, hkd⟩ : ∃ kd, kd = (rd_T60 l1 (i : Int)).f0 := ⟨_, rfl⟩
      obtain ⟨av, hav⟩ : ∃ av, av = (rd_T60 l1 (i : Int)).f1 := ⟨_, rfl⟩
      rw [← hkd, ← hav] at HNX
      rw [← hkd] at hx
      rw [← hav] at hx1
      have HX0 := Aside0.mk (fun (W : World) (hb : Below w.heap.size w W) => (hb.cell (World.block_lt_of_cell? _ _ hx)).trans hx)
      have HX1 := Aside0.mk (fun (W : World) (hb : Below w.heap.size w W) => (hb.cell (World.block_lt_of_cell? _ _ hx1)).trans hx1)
      clear hkd hav hx hx1
      have HLL : Aside0 (L.length ≤ 60) := ⟨by have := HLN.out.1; have := H60.out; omega⟩
      have HH16 : Aside0 (H.length ≤ 16) := ⟨by have := HLN.out; have := HFR.out; omega⟩
      go_wp2_with (fail)
      go_loopg [14] H.length (fun gg s14 wr2 => ∃ k : Nat, s14 = .int .i64 k ∧ Aside0 (ClkS w wr2 (w3.heap.size + 1) (w3.heap.size + 1 + 1) gP cP fr (.slice AL L.length cL) H L) ∧ Aside0 (k ≤ H.length ∧ H.length - k ≤ gg) ∧ Aside0 (∀ j, (hj : j < k) → (hl : j < H.length) → (H[j]).1 ≠ av))
      case atStart => exact ⟨0, rfl, ⟨HS.out⟩, ⟨⟨Nat.zero_le _, by omega⟩⟩, ⟨fun j hj => absurd hj (Nat.not_lt_zero _)⟩⟩
      case round =>
        clear HS
        obtain ⟨k, rfl, HS, HKK, HNE⟩ := hrel
        have hxa := HX1.out _ HS.out.bel
        by_cases hk : k < H.length
        · have hkz : (k : Int) < (H.length : Int) := by omega
          have hkd : decide ((k : Int) < (H.length : Int)) = true := decide_eq_true hkz
          have hk0 : (0 : Int) ≤ (k : Int) := by omega
          have hcell := (Kd.R_celln 0 HS.out.rP (k : Int) hk0 hkz).1
          rw [Int.toNat_natCast] at hcell
          have hpk : rdOf 0 (H.map (·.1)) (k : Int) = (H[k]).1 := by
            show (H.map (·.1)).getD (k : Int).toNat 0 = _
            rw [Int.toNat_natCast, List.getD_eq_getElem?_getD, List.getElem?_map, List.getElem?_eq_getElem hk]; rfl
          rw [hpk] at hcell
          obtain ⟨pk, hpkk⟩ : ∃ pk, pk = (H[k]).1 := ⟨_, rfl⟩
          rw [← hpkk] at hcell
          have HPK := Aside0.mk hpkk
          clear hpk hpkk
          by_cases he : pk = av
          · have hned : (pk != av) = false := by simpa using he
            go_wp2_with (fail)
            go_quiet (fail)
            have hfi : H.findIdx (fun f => f.1 == av) = k := findIdx_at H av k (Nat.le_of_lt hk) (fun j hj => HNE.out j hj (by omega)) (.inr ⟨hk, by rw [← HPK.out]; exact he⟩)
            have hst : stepC fr H p kd av = ((H.set k ((rdC H k).1, true, (rdC H k).2.2 || kd == 1), p), 0, 0) := by
              show (if _ then _ else _) = _
              rw [hfi, if_pos hk]
            rw [hst] at HNX
            clear hst hfi
            go_upto_region 15 with (fail)
            have HS5 := Aside0.mk (HS.out.below (pw_below_drewN (Below.refl wr.heap.size wr) nq))
            generalize wr.drewN nq = w5 at HS5 ⊢
            have HQ5 := Aside0.mk hk
            have HL5 : Aside0 (H.length ≤ fr) := ⟨HLN.out.2.1⟩
            have hnek : ((k : Int) == (H.length : Int)) = false := by rw [beq_eq_false_iff_ne]; omega
            clear HS hcell hxa hned hkd
            cases hd : (rdC H k).2.2 with
            | true =>
              rw [hd, Bool.true_or] at HNX
              have HD5 := Aside0.mk hd
              clear hd
              have hkfr : (k) < fr := by have := HQ5.out; have := HL5.out; omega
              have hkfz : (((k) : Nat) : Int) < (fr : Int) := by omega
              have hcm := (blk_cell HS5.out.bM (k)).trans (mkA_get fMk fr (H) (k) hkfr)
              have hfm := blk_frozen HS5.out.bM (k)
              have HS6 := Aside0.mk (HS5.out.mark (k) HQ5.out true)
              go_upto_region 30 with (fail)
              generalize (w5.setCell ⟨w3.heap.size + 1, (k), none⟩ (.bool true)) = W6 at HS6 ⊢
              have HQ6 : Aside0 ((k) < ((H).set (k) ((rdC (H) (k)).1, true, (rdC (H) (k)).2.2)).length) := ⟨by rw [List.length_set]; exact HQ5.out⟩
              have hcw := (blk_cell HS6.out.bW (k)).trans (mkA_get fWr fr _ (k) hkfr)
              rw [show fWr (rdC ((H).set (k) ((rdC (H) (k)).1, true, (rdC (H) (k)).2.2)) (k)) = true by rw [rdC_set2 _ _ _ HQ5.out, if_pos rfl]; exact HD5.out] at hcw
              have hfw := blk_frozen HS6.out.bW (k)
              have hxk := HX0.out _ HS6.out.bel
              have HS7 := Aside0.mk (HS6.out.write (k) HQ6.out true)
              go_upto_region 31 with (fail)
              generalize (W6.setCell ⟨w3.heap.size + 1 + 1, (k), none⟩ (.bool true)) = W7 at HS7 ⊢
              clear hcm hfm hcw hfw hxk HS5 HS6
              go_wp2_with ((with_reducible refine gate_builtin (b := .append) (xs := #[.tmp 123, .tmp 125]) rfl ?_); at_builtin; refine Kd.R_append (Kd.int .i64) (w0 := w) w.heap.size rfl (.tmp 123) (.tmp 125) 24 2 (.int .i64 0) 8 rfl Try.underlying24 infoSI rfl (by decide) (by omega) (.slice AL L.length cL) L 0 [.int .i64 0] (fun _ => True) (fun _ => False) rfl rfl ?aP (fun _ hk => hk.elim) ?aF ?aO ?aB ?aS ?aL ?_; (case aP => exact rfl); (case aB => exact HS7.out.bel); (case aF => exact (fun _ _ => trivial)); (case aO => exact HS7.out.rL); (case aS => exact HS7.out.bel.size); (case aL => have := HLL.out; omega); intro vap wap ho hb hg hat; have HZ := Aside0.mk (HS7.out.app ho hb hg hat); obtain ⟨A5, c5, evap⟩ := Kd.R_slice ho; subst evap; clear ho hb hg hat)
              go_roundg (l1.length - (i + 1))
              case measure => have := HK.out; omega
              case rel => exact ⟨i + 1, gP, cP, _, _, H.set k ((rdC H k).1, true, true), p, L ++ [0], bk, by rw [List.length_set], rfl, by rw [List.length_append, List.length_singleton], rfl, by rw [wrap64_succ (by have := H60.out; omega)], ⟨by have := HK.out; omega⟩, ⟨by rw [HNX.out, Int.add_zero]⟩, ⟨by have h := HZ.out; rw [rdC_set2 _ _ _ HQ5.out, if_pos rfl, List.set_set] at h; exact h⟩, ⟨by have := HLN.out; rw [List.length_append, List.length_singleton, List.length_set]; omega⟩⟩
            | false =>
              rw [hd, Bool.false_or] at HNX
              have HD5 := Aside0.mk hd
              clear hd
              have hkfr : (k) < fr := by have := HQ5.out; have := HL5.out; omega
              have hkfz : (((k) : Nat) : Int) < (fr : Int) := by omega
              have hcm := (blk_cell HS5.out.bM (k)).trans (mkA_get fMk fr (H) (k) hkfr)
              have hfm := blk_frozen HS5.out.bM (k)
              have HS6 := Aside0.mk (HS5.out.mark (k) HQ5.out true)
              go_upto_region 30 with (fail)
              generalize (w5.setCell ⟨w3.heap.size + 1, (k), none⟩ (.bool true)) = W6 at HS6 ⊢
              have HQ6 : Aside0 ((k) < ((H).set (k) ((rdC (H) (k)).1, true, (rdC (H) (k)).2.2)).length) := ⟨by rw [List.length_set]; exact HQ5.out⟩
              have hcw := (blk_cell HS6.out.bW (k)).trans (mkA_get fWr fr _ (k) hkfr)
              rw [show fWr (rdC ((H).set (k) ((rdC (H) (k)).1, true, (rdC (H) (k)).2.2)) (k)) = false by rw [rdC_set2 _ _ _ HQ5.out, if_pos rfl]; exact HD5.out] at hcw
              have hfw := blk_frozen HS6.out.bW (k)
              have hxk := HX0.out _ HS6.out.bel
              have HS7 := Aside0.mk (HS6.out.write (k) HQ6.out (kd == 1))
              go_upto_region 31 with (fail)
              generalize (W6.setCell ⟨w3.heap.size + 1 + 1, (k), none⟩ (.bool (kd == 1))) = W7 at HS7 ⊢
              clear hcm hfm hcw hfw hxk HS5 HS6
              go_wp2_with ((with_reducible refine gate_builtin (b := .append) (xs := #[.tmp 123, .tmp 125]) rfl ?_); at_builtin; refine Kd.R_append (Kd.int .i64) (w0 := w) w.heap.size rfl (.tmp 123) (.tmp 125) 24 2 (.int .i64 0) 8 rfl Try.underlying24 infoSI rfl (by decide) (by omega) (.slice AL L.length cL) L 0 [.int .i64 0] (fun _ => True) (fun _ => False) rfl rfl ?aP (fun _ hk => hk.elim) ?aF ?aO ?aB ?aS ?aL ?_; (case aP => exact rfl); (case aB => exact HS7.out.bel); (case aF => exact (fun _ _ => trivial)); (case aO => exact HS7.out.rL); (case aS => exact HS7.out.bel.size); (case aL => have := HLL.out; omega); intro vap wap ho hb hg hat; have HZ := Aside0.mk (HS7.out.app ho hb hg hat); obtain ⟨A5, c5, evap⟩ := Kd.R_slice ho; subst evap; clear ho hb hg hat)
              go_roundg (l1.length - (i + 1))
              case measure => have := HK.out; omega
              case rel => exact ⟨i + 1, gP, cP, _, _, H.set k ((rdC H k).1, true, kd == 1), p, L ++ [0], bk, by rw [List.length_set], rfl, by rw [List.length_append, List.length_singleton], rfl, by rw [wrap64_succ (by have := H60.out; omega)], ⟨by have := HK.out; omega⟩, ⟨by rw [HNX.out, Int.add_zero]⟩, ⟨by have h := HZ.out; rw [rdC_set2 _ _ _ HQ5.out, if_pos rfl, List.set_set] at h; exact h⟩, ⟨by have := HLN.out; rw [List.length_append, List.length_singleton, List.length_set]; omega⟩⟩
          · have hned : (pk != av) = true := by simpa using he
            go_wp2_with (fail)
            go_quiet (fail)
            go_wp2_with (fail)
            go_roundg (H.length - (k + 1))
            case measure => have := HKK.out; omega
            case rel =>
              refine ⟨k + 1, by rw [wrap64_succ (by have := HH16.out; omega)], ⟨HS.out.below (pw_below_drewN (Below.refl wr.heap.size wr) nq)⟩, ⟨by have := HKK.out; omega⟩, ⟨fun j hj hl => ?_⟩⟩
              by_cases e : j = k
              · subst e
                rw [← HPK.out]; exact he
              · exact HNE.out j (by omega) hl
        · have hke : k = H.length := by have := HKK.out; omega
          subst hke
          have hkd : decide ((H.length : Int) < (H.length : Int)) = false := decide_eq_false (by omega)
          have hfi : H.findIdx (fun f => f.1 == av) = H.length := findIdx_at H av H.length (Nat.le_refl _) (fun j hj => HNE.out j hj hj) (.inl rfl)
          go_wp2_with (fail)
          go_quiet (fail)
          go_upto_region 15 with (fail)
          have HS5 := Aside0.mk (HS.out.below (pw_below_drewN (Below.refl wr.heap.size wr) nq))
          generalize wr.drewN nq = w5 at HS5 ⊢
          clear HS hxa hkd
          by_cases hfr : H.length < fr
          · have hst : stepC fr H p kd av = ((H ++ [(av, true, kd == 1)], p), 1, 0) := by
              show (if _ then _ else _) = _
              rw [hfi, if_neg (Nat.lt_irrefl _), if_pos hfr]
            rw [hst] at HNX
            clear hst hfi
            have hfz : (H.length : Int) < (fr : Int) := by omega
            have hxa5 := HX1.out _ HS5.out.bel
            go_upto_region 29 with ((with_reducible refine gate_builtin (b := .append) (xs := #[.tmp 62, .tmp 68]) rfl ?_); at_builtin; refine Kd.R_append (Kd.int .i64) (w0 := w) w.heap.size rfl (.tmp 62) (.tmp 68) 24 2 (.int .i64 0) 8 rfl Try.underlying24 infoSI rfl (by decide) (by omega) (.slice (some ⟨gP, 0, none⟩) H.length cP) (H.map (·.1)) av [.int .i64 av] (fun _ => True) (fun _ => False) rfl rfl ?aP (fun _ hk => hk.elim) ?aF ?aO ?aB ?aS ?aL ?_; (case aP => exact rfl); (case aB => exact HS5.out.bel); (case aF => exact (fun _ _ => trivial)); (case aO => exact HS5.out.rP); (case aS => exact HS5.out.bel.size); (case aL => rw [List.length_map]; have := HH16.out; omega); intro v1 w5 ho hb hg hat; obtain ⟨g6, c6, ev1, hS6⟩ := HS5.out.more ho hb hg hat; subst ev1; clear HS5; have HS5 := Aside0.mk hS6; clear ho hb hg hat hS6 hxa5)
            have HQ5 : Aside0 (H.length < (H ++ [((av, false, false) : CF)]).length) := ⟨by rw [List.length_append, List.length_singleton]; omega⟩
            have HL5 : Aside0 ((H ++ [((av, false, false) : CF)]).length ≤ fr) := ⟨by rw [List.length_append, List.length_singleton]; omega⟩
            have HD5 : Aside0 ((rdC (H ++ [((av, false, false) : CF)]) H.length).2.2 = false) := ⟨by rw [rdC_lt _ _ HQ5.out]; simp⟩
            have HD7 : Aside0 ((rdC (H ++ [((av, false, false) : CF)]) H.length).1 = av) := ⟨by rw [rdC_lt _ _ HQ5.out]; simp⟩
            have hkfr : (H.length) < fr := by have := HQ5.out; have := HL5.out; omega
            have hkfz : (((H.length) : Nat) : Int) < (fr : Int) := by omega
            have hcm := (blk_cell HS5.out.bM (H.length)).trans (mkA_get fMk fr (H ++ [((av, false, false) : CF)]) (H.length) hkfr)
            have hfm := blk_frozen HS5.out.bM (H.length)
            have HS6 := Aside0.mk (HS5.out.mark (H.length) HQ5.out true)
            go_upto_region 30 with (fail)
            generalize (w5.setCell ⟨w3.heap.size + 1, (H.length), none⟩ (.bool true)) = W6 at HS6 ⊢
            have HQ6 : Aside0 ((H.length) < ((H ++ [((av, false, false) : CF)]).set (H.length) ((rdC (H ++ [((av, false, false) : CF)]) (H.length)).1, true, (rdC (H ++ [((av, false, false) : CF)]) (H.length)).2.2)).length) := ⟨by rw [List.length_set]; exact HQ5.out⟩
            have hcw := (blk_cell HS6.out.bW (H.length)).trans (mkA_get fWr fr _ (H.length) hkfr)
            rw [show fWr (rdC ((H ++ [((av, false, false) : CF)]).set (H.length) ((rdC (H ++ [((av, false, false) : CF)]) (H.length)).1, true, (rdC (H ++ [((av, false, false) : CF)]) (H.length)).2.2)) (H.length)) = false by rw [rdC_set2 _ _ _ HQ5.out, if_pos rfl]; exact HD5.out] at hcw
            have hfw := blk_frozen HS6.out.bW (H.length)
            have hxk := HX0.out _ HS6.out.bel
            have HS7 := Aside0.mk (HS6.out.write (H.length) HQ6.out (kd == 1))
            go_upto_region 31 with (fail)
            generalize (W6.setCell ⟨w3.heap.size + 1 + 1, (H.length), none⟩ (.bool (kd == 1))) = W7 at HS7 ⊢
            clear hcm hfm hcw hfw hxk HS5 HS6
            go_wp2_with ((with_reducible refine gate_builtin (b := .append) (xs := #[.tmp 123, .tmp 125]) rfl ?_); at_builtin; refine Kd.R_append (Kd.int .i64) (w0 := w) w.heap.size rfl (.tmp 123) (.tmp 125) 24 2 (.int .i64 0) 8 rfl Try.underlying24 infoSI rfl (by decide) (by omega) (.slice AL L.length cL) L 1 [.int .i64 1] (fun _ => True) (fun _ => False) rfl rfl ?aP (fun _ hk => hk.elim) ?aF ?aO ?aB ?aS ?aL ?_; (case aP => exact rfl); (case aB => exact HS7.out.bel); (case aF => exact (fun _ _ => trivial)); (case aO => exact HS7.out.rL); (case aS => exact HS7.out.bel.size); (case aL => have := HLL.out; omega); intro vap wap ho hb hg hat; have HZ := Aside0.mk (HS7.out.app ho hb hg hat); obtain ⟨A5, c5, evap⟩ := Kd.R_slice ho; subst evap; clear ho hb hg hat)
            go_roundg (l1.length - (i + 1))
            case measure => have := HK.out; omega
            case rel => exact ⟨i + 1, g6, c6, _, _, H ++ [(av, true, kd == 1)], p, L ++ [1], bk, by rw [List.length_append, List.length_singleton], rfl, by rw [List.length_append, List.length_singleton], rfl, by rw [wrap64_succ (by have := H60.out; omega)], ⟨by have := HK.out; omega⟩, ⟨by rw [HNX.out, Int.add_zero]⟩, ⟨by have h := HZ.out; rw [rdC_set2 _ _ _ HQ5.out, if_pos rfl, List.set_set, HD7.out] at h; simpa using h⟩, ⟨by have := HLN.out; have := HL5.out; rw [List.length_append, List.length_singleton, List.length_append, List.length_singleton]; rw [List.length_append, List.length_singleton] at this; omega⟩⟩
          · have hp : p < H.length := by have := HLN.out; have := HFR.out; omega
            obtain ⟨F, hF⟩ : ∃ F, F = spinC H.length H p := ⟨_, rfl⟩
            have hst : stepC fr H p kd av = ((F.1.set F.2 (av, true, kd == 1), (F.2 + 1) % H.length), 1, if (rdC F.1 F.2).2.2 = true then 1 else 0) := by
              show (if _ then _ else _) = _
              rw [hfi, if_neg (Nat.lt_irrefl _), if_neg hfr, ← hF]
            rw [hst] at HNX
            have HFE := Aside0.mk hF
            have HPL := Aside0.mk hp
            have hfz : ¬ (H.length : Int) < (fr : Int) := by omega
            clear hst hfi hF hp hfr
            go_upto_region 20 with (fail)
            go_loopg [10] H.length (fun gg s10 wr2 => ∃ (Hx : List CF) (px : Nat), s10 = .int .i64 px ∧ Aside0 (ClkS w wr2 (w3.heap.size + 1) (w3.heap.size + 1 + 1) gP cP fr (.slice AL L.length cL) Hx L) ∧ Aside0 (spinC gg Hx px = F ∧ cntM Hx ≤ gg) ∧ Aside0 (Hx.length = H.length ∧ px < H.length))
            case atStart => exact ⟨H, p, rfl, ⟨HS5.out⟩, ⟨⟨HFE.out.symm, cntM_le H⟩⟩, ⟨⟨rfl, HPL.out⟩⟩⟩
            case round =>
              clear HS5
              obtain ⟨Hx, px, rfl, HSx, HSP, HPX⟩ := hrel
              have hpx : px < Hx.length := by have := HPX.out; omega
              have hpz : (px : Int) < (H.length : Int) := by have := HPX.out; omega
              have hp0 : (0 : Int) ≤ (px : Int) := by omega
              have hpf : px < fr := by have := HPX.out; have := HLN.out; omega
              have hpfz : (px : Int) < (fr : Int) := by omega
              have hcm := (blk_cell HSx.out.bM px).trans (mkA_get fMk fr Hx px hpf)
              have hfm := blk_frozen HSx.out.bM px
              have hmod : (((px : Int) + 1).tmod (H.length : Int)) = (((px + 1) % H.length : Nat) : Int) := by
                rw [Int.tmod_eq_emod_of_nonneg (by omega)]
                rfl
              have hn0 : ¬ (H.length : Int) = 0 := by omega
              cases hmk : (rdC Hx px).2.1 with
              | true =>
                rw [show fMk (rdC Hx px) = true from hmk] at hcm
                have HUN := Aside0.mk (HSx.out.mark px hpx false)
                have HCU := Aside0.mk (cntM_unm Hx px hpx hmk)
                have HMK := Aside0.mk hmk
                clear hmk
                go_wp2_with (fail)
                go_roundg (gk - 1)
                case measure => have h1 := HSP.out.2; have h2 := HCU.out; omega
                case rel =>
                  refine ⟨unm Hx px, (px + 1) % H.length, ?_, ⟨HUN.out⟩, ⟨⟨?_, ?_⟩⟩, ⟨⟨?_, ?_⟩⟩⟩
                  · first | rfl | (rw [hmod]) | (rw [wrap64_id (by have := HH16.out; have := HPX.out.2; omega) (by have := HH16.out; have := HPX.out.2; omega), hmod])
                  · have h := HSP.out.1
                    have hg1 : gk = (gk - 1) + 1 := by have h1 := HSP.out.2; have h2 := HCU.out; omega
                    rw [hg1] at h
                    have h2 : (if (rdC Hx px).2.1 = true then spinC (gk - 1) (unm Hx px) ((px + 1) % Hx.length) else (Hx, px)) = F := h
                    rw [if_pos HMK.out, HPX.out.1] at h2
                    exact h2
                  · have h1 := HSP.out.2
                    have h2 := HCU.out
                    omega
                  · rw [unm_length]; exact HPX.out.1
                  · exact Nat.mod_lt _ (by omega)
              | false =>
                rw [show fMk (rdC Hx px) = false from hmk] at hcm
                have hFe : F = (Hx, px) := HSP.out.1.symm.trans (spinC_stop gk Hx px hmk)
                rw [hFe] at HNX
                have HMF := Aside0.mk hmk
                clear hFe hmk HSP HFE
                have hcw := (blk_cell HSx.out.bW px).trans (mkA_get fWr fr Hx px hpf)
                have hfw := blk_frozen HSx.out.bW px
                have hxa := HX1.out _ HSx.out.bel
                obtain ⟨hcP, hfP⟩ := Kd.R_celln 0 HSx.out.rP (px : Int) hp0 (by omega)
                rw [Int.toNat_natCast] at hcP hfP
                cases hdx : (rdC Hx px).2.2 with
                | true =>
                  rw [hdx] at HNX
                  rw [show fWr (rdC Hx px) = true from hdx] at hcw
                  clear hdx
                  go_upto_region 28 with (fail)
                  have HS4 := Aside0.mk (HSx.out.page px hpx av)
                  generalize (wr.setCell ⟨gP, px, none⟩ (.int .i64 av)) = W4 at HS4 ⊢
                  have hpx4 : px < (Hx.set px (av, (rdC Hx px).2)).length := by rw [List.length_set]; exact hpx
                  have hcw4 := (blk_cell HS4.out.bW px).trans (mkA_get fWr fr _ px hpf)
                  have hfw4 := blk_frozen HS4.out.bW px
                  go_upto_region 29 with (fail)
                  have HS5 := Aside0.mk (HS4.out.write px hpx4 false)
                  generalize (W4.setCell ⟨w3.heap.size + 1 + 1, px, none⟩ (.bool false)) = w5 at HS5 ⊢
                  have hset : ((Hx.set px (av, (rdC Hx px).2)).set px ((rdC (Hx.set px (av, (rdC Hx px).2)) px).1, (rdC (Hx.set px (av, (rdC Hx px).2)) px).2.1, false)) = Hx.set px (av, false, false) := by
                    rw [rdC_set2 Hx px px hpx, if_pos rfl, List.set_set, HMF.out]
                  rw [hset] at HS5
                  have HQ5 : Aside0 (px < (Hx.set px (av, false, false)).length) := ⟨by rw [List.length_set]; exact hpx⟩
                  have HL5 : Aside0 ((Hx.set px (av, false, false)).length ≤ fr) := ⟨by rw [List.length_set]; have := HPX.out; have := HLN.out; omega⟩
                  have HD5 : Aside0 ((rdC (Hx.set px (av, false, false)) px).2.2 = false) := ⟨by rw [rdC_set2 Hx px px hpx, if_pos rfl]⟩
                  have HD7 : Aside0 ((rdC (Hx.set px (av, false, false)) px).1 = av) := ⟨by rw [rdC_set2 Hx px px hpx, if_pos rfl]⟩
                  clear hset hcw4 hfw4 HS4 HSx hcw hcP hfP hxa hfw hcm hfm
                  have hkfr : (px) < fr := by have := HQ5.out; have := HL5.out; omega
                  have hkfz : (((px) : Nat) : Int) < (fr : Int) := by omega
                  have hcm := (blk_cell HS5.out.bM (px)).trans (mkA_get fMk fr (Hx.set px (av, false, false)) (px) hkfr)
                  have hfm := blk_frozen HS5.out.bM (px)
                  have HS6 := Aside0.mk (HS5.out.mark (px) HQ5.out true)
                  go_upto_region 30 with (fail)
                  generalize (w5.setCell ⟨w3.heap.size + 1, (px), none⟩ (.bool true)) = W6 at HS6 ⊢
                  have HQ6 : Aside0 ((px) < ((Hx.set px (av, false, false)).set (px) ((rdC (Hx.set px (av, false, false)) (px)).1, true, (rdC (Hx.set px (av, false, false)) (px)).2.2)).length) := ⟨by rw [List.length_set]; exact HQ5.out⟩
                  have hcw := (blk_cell HS6.out.bW (px)).trans (mkA_get fWr fr _ (px) hkfr)
                  rw [show fWr (rdC ((Hx.set px (av, false, false)).set (px) ((rdC (Hx.set px (av, false, false)) (px)).1, true, (rdC (Hx.set px (av, false, false)) (px)).2.2)) (px)) = false by rw [rdC_set2 _ _ _ HQ5.out, if_pos rfl]; exact HD5.out] at hcw
                  have hfw := blk_frozen HS6.out.bW (px)
                  have hxk := HX0.out _ HS6.out.bel
                  have HS7 := Aside0.mk (HS6.out.write (px) HQ6.out (kd == 1))
                  go_upto_region 31 with (fail)
                  generalize (W6.setCell ⟨w3.heap.size + 1 + 1, (px), none⟩ (.bool (kd == 1))) = W7 at HS7 ⊢
                  clear hcm hfm hcw hfw hxk HS5 HS6
                  go_wp2_with ((with_reducible refine gate_builtin (b := .append) (xs := #[.tmp 123, .tmp 125]) rfl ?_); at_builtin; refine Kd.R_append (Kd.int .i64) (w0 := w) w.heap.size rfl (.tmp 123) (.tmp 125) 24 2 (.int .i64 0) 8 rfl Try.underlying24 infoSI rfl (by decide) (by omega) (.slice AL L.length cL) L 1 [.int .i64 1] (fun _ => True) (fun _ => False) rfl rfl ?aP (fun _ hk => hk.elim) ?aF ?aO ?aB ?aS ?aL ?_; (case aP => exact rfl); (case aB => exact HS7.out.bel); (case aF => exact (fun _ _ => trivial)); (case aO => exact HS7.out.rL); (case aS => exact HS7.out.bel.size); (case aL => have := HLL.out; omega); intro vap wap ho hb hg hat; have HZ := Aside0.mk (HS7.out.app ho hb hg hat); obtain ⟨A5, c5, evap⟩ := Kd.R_slice ho; subst evap; clear ho hb hg hat)
                  go_roundg (l1.length - (i + 1))
                  case measure => have := HK.out; omega
                  case rel => exact ⟨i + 1, gP, cP, _, _, Hx.set px (av, true, kd == 1), (px + 1) % H.length, L ++ [1], bk + 1, by rw [List.length_set, HPX.out.1], by first | rfl | (rw [hmod]) | (rw [wrap64_id (by have := HH16.out; have := HPX.out.2; omega) (by have := HH16.out; have := HPX.out.2; omega), hmod]), by rw [List.length_append, List.length_singleton], by rw [wrap64_id (by have := HLN.out; have := H60.out; omega) (by have := HLN.out; have := H60.out; omega)], by rw [wrap64_succ (by have := H60.out; omega)], ⟨by have := HK.out; omega⟩, ⟨by rw [HNX.out, if_pos trivial]⟩, ⟨by have h := HZ.out; rw [rdC_set2 _ _ _ HQ5.out, if_pos rfl, List.set_set, List.set_set, HD7.out] at h; exact h⟩, ⟨by have := HLN.out; have := HPX.out.1; have := Nat.mod_lt (px + 1) (show 0 < H.length by omega); rw [List.length_append, List.length_singleton, List.length_set]; omega⟩⟩
                | false =>
                  rw [hdx] at HNX
                  rw [show fWr (rdC Hx px) = false from hdx] at hcw
                  clear hdx
                  go_upto_region 28 with (fail)
                  have HS4 := Aside0.mk (HSx.out.page px hpx av)
                  generalize (wr.setCell ⟨gP, px, none⟩ (.int .i64 av)) = W4 at HS4 ⊢
                  have hpx4 : px < (Hx.set px (av, (rdC Hx px).2)).length := by rw [List.length_set]; exact hpx
                  have hcw4 := (blk_cell HS4.out.bW px).trans (mkA_get fWr fr _ px hpf)
                  have hfw4 := blk_frozen HS4.out.bW px
                  go_upto_region 29 with (fail)
                  have HS5 := Aside0.mk (HS4.out.write px hpx4 false)
                  generalize (W4.setCell ⟨w3.heap.size + 1 + 1, px, none⟩ (.bool false)) = w5 at HS5 ⊢
                  have hset : ((Hx.set px (av, (rdC Hx px).2)).set px ((rdC (Hx.set px (av, (rdC Hx px).2)) px).1, (rdC (Hx.set px (av, (rdC Hx px).2)) px).2.1, false)) = Hx.set px (av, false, false) := by
                    rw [rdC_set2 Hx px px hpx, if_pos rfl, List.set_set, HMF.out]
                  rw [hset] at HS5
                  have HQ5 : Aside0 (px < (Hx.set px (av, false, false)).length) := ⟨by rw [List.length_set]; exact hpx⟩
                  have HL5 : Aside0 ((Hx.set px (av, false, false)).length ≤ fr) := ⟨by rw [List.length_set]; have := HPX.out; have := HLN.out; omega⟩
                  have HD5 : Aside0 ((rdC (Hx.set px (av, false, false)) px).2.2 = false) := ⟨by rw [rdC_set2 Hx px px hpx, if_pos rfl]⟩
                  have HD7 : Aside0 ((rdC (Hx.set px (av, false, false)) px).1 = av) := ⟨by rw [rdC_set2 Hx px px hpx, if_pos rfl]⟩
                  clear hset hcw4 hfw4 HS4 HSx hcw hcP hfP hxa hfw hcm hfm
                  have hkfr : (px) < fr := by have := HQ5.out; have := HL5.out; omega
                  have hkfz : (((px) : Nat) : Int) < (fr : Int) := by omega
                  have hcm := (blk_cell HS5.out.bM (px)).trans (mkA_get fMk fr (Hx.set px (av, false, false)) (px) hkfr)
                  have hfm := blk_frozen HS5.out.bM (px)
                  have HS6 := Aside0.mk (HS5.out.mark (px) HQ5.out true)
                  go_upto_region 30 with (fail)
                  generalize (w5.setCell ⟨w3.heap.size + 1, (px), none⟩ (.bool true)) = W6 at HS6 ⊢
                  have HQ6 : Aside0 ((px) < ((Hx.set px (av, false, false)).set (px) ((rdC (Hx.set px (av, false, false)) (px)).1, true, (rdC (Hx.set px (av, false, false)) (px)).2.2)).length) := ⟨by rw [List.length_set]; exact HQ5.out⟩
                  have hcw := (blk_cell HS6.out.bW (px)).trans (mkA_get fWr fr _ (px) hkfr)
                  rw [show fWr (rdC ((Hx.set px (av, false, false)).set (px) ((rdC (Hx.set px (av, false, false)) (px)).1, true, (rdC (Hx.set px (av, false, false)) (px)).2.2)) (px)) = false by rw [rdC_set2 _ _ _ HQ5.out, if_pos rfl]; exact HD5.out] at hcw
                  have hfw := blk_frozen HS6.out.bW (px)
                  have hxk := HX0.out _ HS6.out.bel
                  have HS7 := Aside0.mk (HS6.out.write (px) HQ6.out (kd == 1))
                  go_upto_region 31 with (fail)
                  generalize (W6.setCell ⟨w3.heap.size + 1 + 1, (px), none⟩ (.bool (kd == 1))) = W7 at HS7 ⊢
                  clear hcm hfm hcw hfw hxk HS5 HS6
                  go_wp2_with ((with_reducible refine gate_builtin (b := .append) (xs := #[.tmp 123, .tmp 125]) rfl ?_); at_builtin; refine Kd.R_append (Kd.int .i64) (w0 := w) w.heap.size rfl (.tmp 123) (.tmp 125) 24 2 (.int .i64 0) 8 rfl Try.underlying24 infoSI rfl (by decide) (by omega) (.slice AL L.length cL) L 1 [.int .i64 1] (fun _ => True) (fun _ => False) rfl rfl ?aP (fun _ hk => hk.elim) ?aF ?aO ?aB ?aS ?aL ?_; (case aP => exact rfl); (case aB => exact HS7.out.bel); (case aF => exact (fun _ _ => trivial)); (case aO => exact HS7.out.rL); (case aS => exact HS7.out.bel.size); (case aL => have := HLL.out; omega); intro vap wap ho hb hg hat; have HZ := Aside0.mk (HS7.out.app ho hb hg hat); obtain ⟨A5, c5, evap⟩ := Kd.R_slice ho; subst evap; clear ho hb hg hat)
                  go_roundg (l1.length - (i + 1))
                  case measure => have := HK.out; omega
                  case rel => exact ⟨i + 1, gP, cP, _, _, Hx.set px (av, true, kd == 1), (px + 1) % H.length, L ++ [1], bk, by rw [List.length_set, HPX.out.1], by first | rfl | (rw [hmod]) | (rw [wrap64_id (by have := HH16.out; have := HPX.out.2; omega) (by have := HH16.out; have := HPX.out.2; omega), hmod]), by rw [List.length_append, List.length_singleton], rfl, by rw [wrap64_succ (by have := H60.out; omega)], ⟨by have := HK.out; omega⟩, ⟨by rw [HNX.out, if_neg (by simp), Int.add_zero]⟩, ⟨by have h := HZ.out; rw [rdC_set2 _ _ _ HQ5.out, if_pos rfl, List.set_set, List.set_set, HD7.out] at h; exact h⟩, ⟨by have := HLN.out; have := HPX.out.1; have := Nat.mod_lt (px + 1) (show 0 < H.length by omega); rw [List.length_append, List.length_singleton, List.length_set]; omega⟩⟩
    · have hltz : ¬ (i : Int) < (l1.length : Int) := by omega
      have hi2 : i = l1.length := by have := HK.out; omega
      subst hi2
      go_wp2_with (fail)
      go_ret3
      rw [HRC.out]
      exact ⟨_, rfl, HS.out.rL, HS.out.bel⟩
def spec_ClockRun.f (a0 : Int) (l1 : List S60) : Option (List Int × Int × Bool) := if l1.length ≤ 1048576 then some (clkF a0 l1) else none
set_option maxHeartbeats 4000000 in
set_option maxRecDepth 100000 in
theorem spec_ClockRun.calls (a0 : Int) (A1 : Option Addr) (c1 : Nat) (l1 : List S60) (r1 : List Int) (r2 : Int) (r3 : Bool) (w : World) (hr1 : Kd.C k60 w A1 l1.length l1) (hc1 : l1.length ≤ c1) (h : spec_ClockRun.f a0 l1 = some (r1, r2, r3)) :
    Calls Try.prog 12 #[.int .i64 a0, .slice A1 l1.length c1] w fun e w' => ∃ v0_ : Value, e = .returned (.tuple #[v0_, .int .i64 r2, .bool r3]) ∧ Kd.R (Kd.int .i64) 2 w' w.heap.size (fun _ => True) v0_ r1 ∧ Below w.heap.size w w' := by
  unfold spec_ClockRun.f at h
  by_cases hl : l1.length ≤ 1048576
  case neg => rw [if_neg hl] at h; cases h
  rw [if_pos hl] at h
  have h := Option.some.inj h
  obtain ⟨kT, eT⟩ := ev_l02Is l1 (by omega)
  have eT := eT kT (Nat.le_refl _)
  by_cases hv : (1 ≤ a0 ∧ a0 ≤ 16) ∧ okTrace l1 = true
  · have e : clkF a0 l1 = ((runC a0.toNat l1 l1.length).2.1, (runC a0.toNat l1 l1.length).2.2, true) := by unfold clkF; rw [if_pos hv]
    rw [e] at h
    simp only [Prod.mk.injEq] at h
    obtain ⟨rfl, rfl, rfl⟩ := h
    rw [hv.2] at eT
    have hr := spec_ClockRun_run a0.toNat A1 c1 l1 w hr1 hc1 (by omega) hv.2 kT eT
    rw [Int.toNat_of_nonneg (by omega)] at hr
    exact hr
  · have e : clkF a0 l1 = ([], 0, false) := by unfold clkF; rw [if_neg hv]
    rw [e] at h
    simp only [Prod.mk.injEq] at h
    obtain ⟨rfl, rfl, rfl⟩ := h
    clear e
    have HB0 := Aside0.mk (Below.refl w.heap.size w)
    have HRA := Aside0.mk hr1
    have HCA := Aside0.mk hc1
    by_cases hin : 1 ≤ a0 ∧ a0 ≤ 16
    · have hok : okTrace l1 = false := by
        cases ho : okTrace l1 with
        | true => exact absurd ⟨hin, ho⟩ hv
        | false => rfl
      rw [hok] at eT
      have HT := Aside0.mk eT
      have HIN : Aside0 (spec_l00In.f a0 1 16 = some true) := ⟨by unfold spec_l00In.f; rw [if_pos (by omega)]; simp [hin.2]⟩
      clear hr1 hc1 hok hin hv eT
      go_enter Try.func12, Try.ntmps12
      go_wp2_with (first
        | (go_at_call 42; (with_reducible refine (spec_l00In.calls a0 1 16 true _ HIN.out).mono ?_); rintro e w2 ⟨rfl, ⟨nd2, hw2⟩⟩; have hb2 : Below w.heap.size w w2 := below_at hw2.symm (Below.refl w.heap.size w); have HB2 := Aside0.mk hb2; clear hw2 hb2)
        | (go_at_call 43; (with_reducible refine (spec_l02Is.calls kT A1 c1 l1 false _ (Kd.C_below HRA.out HB2.out) HCA.out HT.out).mono ?_); rintro e w3 ⟨rfl, ⟨nd3, hw3⟩⟩; have hb3 : Below w2.heap.size w2 w3 := below_at hw3.symm (Below.refl w2.heap.size w2); have HB3 := Aside0.mk (below_step HB2.out hb3); clear hw3 hb3))
      go_ret3
      exact ⟨_, rfl, Kd.R_nil _ _ _ _ _, HB3.out⟩
    · have HIN : Aside0 (spec_l00In.f a0 1 16 = some false) := ⟨by
        unfold spec_l00In.f
        by_cases h1 : a0 ≥ 1
        · rw [if_pos h1, decide_eq_false (fun h2 => hin ⟨h1, h2⟩)]
        · rw [if_neg h1]⟩
      clear hr1 hc1 hin hv eT
      go_enter Try.func12, Try.ntmps12
      go_wp2_with (go_at_call 42; (with_reducible refine (spec_l00In.calls a0 1 16 false _ HIN.out).mono ?_); rintro e w2 ⟨rfl, ⟨nd2, hw2⟩⟩; have hb2 : Below w.heap.size w w2 := below_at hw2.symm (Below.refl w.heap.size w); have HB2 := Aside0.mk hb2; clear hw2 hb2)
      go_ret3
      exact ⟨_, rfl, Kd.R_nil _ _ _ _ _, HB2.out⟩
end Go.Proofs.Yteobbgofbedgdaa.Q
