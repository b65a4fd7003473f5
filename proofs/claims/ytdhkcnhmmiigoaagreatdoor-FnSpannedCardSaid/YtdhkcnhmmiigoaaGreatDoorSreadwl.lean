/- Parts of the proof, laid together: contracts and lemmas; no conditions beyond those written. -/
import Derived.Test.YtdhkcnhmmiigoaaGreatDoorQx0
import Derived.Test.YtdhkcnhmmiigoaaGreatDoorSlu
import Derived.Test.YtdhkcnhmmiigoaaGreatDoorSidxtext
import Derived.Test.YtdhkcnhmmiigoaaGreatDoorSimplReadIndex
import Derived.Test.YtdhkcnhmmiigoaaGreatDoorStxtdef
import Derived.Test.YtdhkcnhmmiigoaaGreatDoorQx1
import Derived.Test.YtdhkcnhmmiigoaaGreatDoorQx2
import Derived.Test.YtdhkcnhmmiigoaaGreatDoorHallIn
namespace Go.Proofs.YtdhkcnhmmiigoaaGreatDoor.Q
open Go.RowKit Go.Proofs.YtdhkcnhmmiigoaaGreatDoorW.PrintWords Go.Proofs.YtdhkcnhmmiigoaaGreatDoorW.PrintLast Go.Proofs.YtdhkcnhmmiigoaaGreatDoorW.PrintMore
attribute [local go_sem] max2_int min2_int max_two min_two max_three min_three max_four min_four   -- for this text's walks alone
set_option linter.unusedVariables false
set_option linter.unusedSimpArgs false
section
/- The words of a text. -/
def wl (n : Int) : List UInt8 := (wordOf n).data.toList
set_option maxRecDepth 100000 in
theorem wl_facts : ∀ n : Fin 64, (wl (n.val : Int)).length = 6 ∧ (wl (n.val : Int)).contains 47 = false ∧ (∀ q : Fin 6, ((wl (n.val : Int)).getD q.val 0).toNat % 2 = n.val / 2 ^ (5 - q.val) % 2) := by decide +kernel
set_option maxRecDepth 100000 in
theorem wl_row : ∀ n : Fin 64, wordRow ⟨⟨wl (n.val : Int)⟩⟩ = (n.val : Int) := by decide +kernel
theorem as_fin {n : Int} (h : 0 ≤ n ∧ n ≤ 63) : ∃ m : Fin 64, n = (m.val : Int) := ⟨⟨n.toNat, by omega⟩, by show n = (n.toNat : Int); omega⟩
theorem wl_len {n : Int} (h : 0 ≤ n ∧ n ≤ 63) : (wl n).length = 6 := by obtain ⟨m, rfl⟩ := as_fin h; exact (wl_facts m).1
theorem wl_no {n : Int} (h : 0 ≤ n ∧ n ≤ 63) : ¬ (47 : UInt8) ∈ wl n := by
  obtain ⟨m, rfl⟩ := as_fin h
  intro hm
  have := (wl_facts m).2.1
  rw [List.contains_iff_mem.2 hm] at this
  exact absurd this (by decide)
/- What strings.Split makes of it. -/
def sp (l : List UInt8) : List (List UInt8) := Go.Lib.splitK [47] 0 (Go.Lib.count l [47]) l
theorem ib_miss : ∀ w : List UInt8, ¬ (47 : UInt8) ∈ w → Go.Lib.indexByte w 47 = -1
  | [], _ => rfl
  | b :: l, h => by
    have hb : ¬ (b == 47) = true := fun e => h (by rw [beq_iff_eq.1 e]; exact List.mem_cons_self)
    have := ib_miss l (fun hm => h (List.mem_cons_of_mem _ hm))
    unfold Go.Lib.indexByte
    rw [if_neg hb, this]; rfl
theorem ib_hit (r : List UInt8) : ∀ w : List UInt8, ¬ (47 : UInt8) ∈ w → Go.Lib.indexByte (w ++ 47 :: r) 47 = w.length
  | [], _ => rfl
  | b :: l, h => by
    have hb : ¬ (b == 47) = true := fun e => h (by rw [beq_iff_eq.1 e]; exact List.mem_cons_self)
    have := ib_hit r l (fun hm => h (List.mem_cons_of_mem _ hm))
    rw [List.cons_append]
    unfold Go.Lib.indexByte
    rw [if_neg hb, this, if_neg (by intro e; have := beq_iff_eq.1 e; omega), List.length_cons]
    omega
theorem sp_miss (w : List UInt8) (h : ¬ (47 : UInt8) ∈ w) : sp w = [w] := by
  have hi : Go.Lib.index w [47] = -1 := by rw [Go.Lib.index_one]; exact ib_miss w h
  unfold sp
  rw [Go.Lib.count_miss hi]
  rfl
theorem sp_hit (w r : List UInt8) (h : ¬ (47 : UInt8) ∈ w) : sp (w ++ 47 :: r) = w :: sp r := by
  have hi : Go.Lib.index (w ++ 47 :: r) [47] = w.length := by rw [Go.Lib.index_one]; exact ib_hit r w h
  have hd : (w ++ 47 :: r).drop (w.length + 1) = r := by simp
  unfold sp
  rw [Go.Lib.count_hit (by decide) hi]
  show Go.Lib.splitK _ _ (1 + Go.Lib.count ((w ++ 47 :: r).drop (w.length + 1)) [47]) _ = _
  rw [hd, Nat.add_comm]
  show (if _ then _ else _) = _
  rw [if_neg (by rw [hi]; intro e; have := beq_iff_eq.1 e; omega), hi]
  show ((w ++ 47 :: r).take (w.length + 0)) :: Go.Lib.splitK _ _ _ ((w ++ 47 :: r).drop (w.length + 1)) = _
  rw [hd, Nat.add_zero, List.take_left]
theorem irdL_sp (s : ByteArray) : (irdL s).map (·.data.toList) = sp s.data.toList := by
  unfold irdL sp
  rw [Go.Lib.splitB_data]
theorem of_data (l : List ByteArray) (m : List Int) (h : l.map (·.data.toList) = m.map wl) (hm : ∀ n ∈ m, 0 ≤ n ∧ n ≤ 63) : l.map wordRow = m ∧ l.length = m.length := by
  induction l generalizing m with
  | nil => cases m with
    | nil => exact ⟨rfl, rfl⟩
    | cons a m => exact absurd h (by simp)
  | cons x l ih => cases m with
    | nil => exact absurd h (by simp)
    | cons a m =>
      rw [List.map_cons, List.map_cons] at h
      obtain ⟨h1, h2⟩ := List.cons.inj h
      obtain ⟨i1, i2⟩ := ih m h2 (fun n hn => hm n (List.mem_cons_of_mem _ hn))
      have hx : x = ⟨⟨wl a⟩⟩ := rd_ba_ext h1
      obtain ⟨k, hk⟩ := as_fin (hm a List.mem_cons_self)
      refine ⟨?_, by rw [List.length_cons, List.length_cons, i2]⟩
      rw [List.map_cons, i1, hx, hk, wl_row k]
theorem txt_wl (l : List Int) (h : okRows l = true) : (txtTo l l.length).data.toList = match l with
    | [] => []
    | [a] => wl a
    | [a, b] => wl a ++ 47 :: wl b
    | a :: b :: c :: _ => wl a ++ 47 :: (wl b ++ 47 :: wl c) := by
  obtain ⟨_, hl⟩ := (okRows_iff l).1 h
  rw [← join_txt l h]
  match l, hl with
  | [], _ => rfl
  | [a], _ => exact Go.Lib.join_one _ _
  | [a, b], _ => simp [Go.Lib.join, List.intercalate, wl]
  | [a, b, c], _ => simp [Go.Lib.join, List.intercalate, wl]
theorem ird_text (x : List Int) (h : okRows x = true) (s : ByteArray) (hs : txtTo x x.length = s) : x ≠ [] → (irdL s).map wordRow = x ∧ (irdL s).length = x.length := by
  obtain ⟨hm, hl⟩ := (okRows_iff x).1 h
  have ht := txt_wl x h
  rw [hs] at ht
  have hsp := irdL_sp s
  rcases x with _ | ⟨a, _ | ⟨b, _ | ⟨c, _ | ⟨d, t⟩⟩⟩⟩
  rotate_right
  · exfalso; simp only [List.length_cons] at hl; omega
  · exact fun h => absurd rfl h
  · have ht : s.data.toList = wl a := ht
    have ha := hm a (by simp)
    refine fun _ => of_data _ [a] ?_ hm
    rw [hsp, ht, sp_miss _ (wl_no ha)]
    rfl
  · have ht : s.data.toList = wl a ++ 47 :: wl b := ht
    have ha := hm a (by simp)
    have hb := hm b (by simp)
    refine fun _ => of_data _ [a, b] ?_ hm
    rw [hsp, ht, sp_hit _ _ (wl_no ha), sp_miss _ (wl_no hb)]
    rfl
  · have ht : s.data.toList = wl a ++ 47 :: (wl b ++ 47 :: wl c) := ht
    have ha := hm a (by simp)
    have hb := hm b (by simp)
    have hc := hm c (by simp)
    refine fun _ => of_data _ [a, b, c] ?_ hm
    rw [hsp, ht, sp_hit _ _ (wl_no ha), sp_hit _ _ (wl_no hb), sp_miss _ (wl_no hc)]
    rfl
/-- What impl.ReadIndex answers, the empty text too. -/
def irdA (s : ByteArray) : List Int × Bool := if s = ⟨#[]⟩ then ([], true) else irdF s
theorem irdA_text (x : List Int) (h : okRows x = true) : irdA (txtTo x x.length) = (x, true) := by
  unfold irdA
  by_cases h0 : txtTo x x.length = ⟨#[]⟩
  · rw [if_pos h0]
    have ht := txt_wl x h
    rw [h0] at ht
    obtain ⟨hm, hl⟩ := (okRows_iff x).1 h
    rcases x with _ | ⟨a, _ | ⟨b, _ | ⟨c, t⟩⟩⟩
    · rfl
    · have e := congrArg List.length ht
      have := wl_len (hm a (by simp))
      exact absurd e (by show ¬ 0 = (wl a).length; omega)
    · have e := congrArg List.length ht
      have := wl_len (hm a (by simp))
      exact absurd e (by show ¬ 0 = (wl a ++ 47 :: wl b).length; rw [List.length_append]; omega)
    · have e := congrArg List.length ht
      have := wl_len (hm a (by simp))
      exact absurd e (by show ¬ 0 = (wl a ++ 47 :: (wl b ++ 47 :: wl c)).length; rw [List.length_append]; omega)
  · rw [if_neg h0]
    have hne : x ≠ [] := fun e => h0 (by rw [e]; rfl)
    obtain ⟨h4, h5⟩ := ird_text x h _ rfl hne
    unfold irdF
    rw [h4, h5, if_pos ⟨((okRows_iff x).1 h).2, rfl⟩]
end
section
theorem impl_isAddress_f (n : Int) : impl_isAddress.f n = some (okAddr n) := by
  unfold impl_isAddress.f impl_inRange.f okAddr
  by_cases h : 0 ≤ n
  · rw [if_pos h]; simp [h]
  · rw [if_neg h]; simp [h]
end
section
theorem impl_ValidIndex_f (l : List Int) : impl_ValidIndex.f l = some (okRows l) := by
  unfold impl_ValidIndex.f impl_allIn.f okRows
  by_cases h : l.length ≤ 3
  · rw [if_pos (by omega)]; simp [h]
  · rw [if_neg (by omega)]; simp [h]
end
section
def areBytes (l : List Int) : Bool := l.all fun n => decide (0 ≤ n) && decide (n ≤ 255)
/-- What a law over two texts of bytes comes to. -/
def lawOf2 (l0 l1 : List Int) : Option Bool := if (areBytes l0 && areBytes l1) = true then some true else none
theorem lawOf2_some {l0 l1 : List Int} {r : Bool} (h : lawOf2 l0 l1 = some r) : r = true ∧ (∀ y ∈ l0, 0 ≤ y ∧ y ≤ 255) ∧ ∀ y ∈ l1, 0 ≤ y ∧ y ≤ 255 := by
  unfold lawOf2 at h
  by_cases hb : (areBytes l0 && areBytes l1) = true
  · rw [if_pos hb] at h
    obtain ⟨h0, h1⟩ := Bool.and_eq_true_iff.1 hb
    refine ⟨(Option.some.inj h).symm, fun y hy => ?_, fun y hy => ?_⟩
    · have := List.all_eq_true.1 h0 y hy; simpa using this
    · have := List.all_eq_true.1 h1 y hy; simpa using this
  · rw [if_neg hb] at h; exact absurd h (by simp)
theorem lawOf2_of {l0 l1 : List Int} (h0 : ∀ y ∈ l0, (Lit.int .u8 y).wf = true) (h1 : ∀ y ∈ l1, (Lit.int .u8 y).wf = true) : lawOf2 l0 l1 = some true := by
  have key : ∀ l : List Int, (∀ y ∈ l, (Lit.int .u8 y).wf = true) → areBytes l = true := by
    intro l h
    refine List.all_eq_true.2 fun y hy => ?_
    have := h y hy
    simp [Lit.wf] at this
    have e1 : IntKind.u8.min = 0 := by decide
    have e2 : IntKind.u8.max = 255 := by decide
    simp; omega
  unfold lawOf2
  rw [key l0 h0, key l1 h1]; rfl
end
section
theorem impl_ValidUses_f (l : List Int) : impl_ValidUses.f l = some (okUses l) := by
  unfold impl_ValidUses.f impl_allIn.f okUses
  by_cases h : l.length ≤ 60
  · rw [if_pos (by omega)]
    show some (l.all okAddr) = some (l.all okAddr && decide (l.length ≤ 60))
    simp [h]
  · rw [if_neg (by omega)]
    simp [h]
end
section
theorem impl_isPlaced_f (l : List Int) (p : Int) (U : List Int) : impl_isPlaced.f l p U = some (okRows l && (isIn 1 4 p && okUses U)) := by
  unfold impl_isPlaced.f
  rw [impl_ValidIndex_f, impl_inRange_f, impl_ValidUses_f]
  cases okRows l <;> cases isIn 1 4 p <;> cases okUses U <;> rfl
end
section
structure Mem (w W : World) (xs : List (Option Addr × Nat × List Int)) (bs : List (Nat × Value)) : Prop where
  lists : ∀ p ∈ xs, Kd.C (Kd.int .i64) W p.1 p.2.2.length p.2.2 ∧ p.2.2.length ≤ p.2.1
  boxes : ∀ p ∈ bs, W.cell? ⟨p.1, 0, none⟩ = some p.2
  bel : Below w.heap.size w W
section
variable {w W W' : World} {xs : List (Option Addr × Nat × List Int)} {bs : List (Nat × Value)}
theorem Mem.start (w : World) : Mem w w [] [] := ⟨fun p hp => absurd hp List.not_mem_nil, fun p hp => absurd hp List.not_mem_nil, Below.refl _ _⟩
theorem Mem.below (h : Mem w W xs bs) (hb : Below W.heap.size W W') : Mem w W' xs bs :=
  ⟨fun p hp => ⟨Kd.C_below (h.lists p hp).1 hb, (h.lists p hp).2⟩, fun p hp => (hb.cell (World.block_lt_of_cell? _ _ (h.boxes p hp))).trans (h.boxes p hp), below_step h.bel hb⟩
theorem Mem.drawn (h : Mem w W xs bs) (hd : Drawn0 W W') : Mem w W' xs bs := by
  obtain ⟨nd, hw⟩ := hd
  exact h.below (below_at hw.symm (Below.refl _ _))
theorem Mem.put (h : Mem w W xs bs) {A : Option Addr} {c : Nat} {l : List Int} (hC : Kd.C (Kd.int .i64) W A l.length l) (hc : l.length ≤ c) : Mem w W ((A, c, l) :: xs) bs :=
  ⟨fun p hp => (List.mem_cons.1 hp).elim (fun e => e ▸ ⟨hC, hc⟩) (fun hp => h.lists p hp), h.boxes, h.bel⟩
theorem Mem.box (h : Mem w W xs bs) (v : Value) (t : TypeId) : Mem w (W.alloc (.cells #[v] t)) xs ((W.heap.size, v) :: bs) := by
  have hb := below_alloc (Below.refl W.heap.size W) (.cells #[v] t)
  have h2 := h.below hb
  refine ⟨h2.lists, fun p hp => ?_, h2.bel⟩
  rcases List.mem_cons.1 hp with rfl | hp
  · show (W.alloc (.cells #[v] t)).cell? ⟨W.heap.size, 0, none⟩ = some v
    rw [blk_cell (blk_new W (.cells #[v] t))]; rfl
  · exact h2.boxes p hp
end
end
end Go.Proofs.YtdhkcnhmmiigoaaGreatDoor.Q
