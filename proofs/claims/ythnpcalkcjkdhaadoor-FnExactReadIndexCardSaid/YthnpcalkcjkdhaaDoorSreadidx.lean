/- Both sides read the same index: what is read is the rows of which the text is. -/
import Derived.Test.YthnpcalkcjkdhaaDoorQx0
import Derived.Test.YthnpcalkcjkdhaaDoorSidxtext
import Derived.Test.YthnpcalkcjkdhaaDoorSimplReadIndex
import Derived.Test.YthnpcalkcjkdhaaDoorSl06Text
import Derived.Test.YthnpcalkcjkdhaaDoorSokrows
import Derived.Test.YthnpcalkcjkdhaaDoorSspecReadIndex
namespace Go.Proofs.YthnpcalkcjkdhaaDoor.Q
open Go.RowKit Go.Proofs.YthnpcalkcjkdhaaDoorW.PrintWords Go.Proofs.YthnpcalkcjkdhaaDoorW.PrintLast Go.Proofs.YthnpcalkcjkdhaaDoorW.PrintMore
attribute [local go_sem] max2_int min2_int max_two min_two max_three min_three max_four min_four   -- for this text's walks alone
set_option linter.unusedVariables false
set_option linter.unusedSimpArgs false

set_option maxHeartbeats 4000000 in
theorem srd_word (s : ByteArray) (b : Nat) (h7 : b % 7 = 0) (y : Nat) (hy : y < 64) (hb : ∀ q : Nat, q < 6 → bt s (b + q) % 2 = ((y : Int) / 2 ^ (5 - q)) % 2) (h0 : srdN s b = 0) : srdR s (b + 6) = srdR s b ++ [(y : Int)] ∧ srdN s (b + 6) = 0 := by
  have e0 := hb 0 (by omega)
  have e1 := hb 1 (by omega)
  have e2 := hb 2 (by omega)
  have e3 := hb 3 (by omega)
  have e4 := hb 4 (by omega)
  have e5 := hb 5 (by omega)
  simp only [Nat.add_zero] at e0
  have s0 : srdN s (b + 1) = (2 * srdN s b) % 128 + bt s b % 2 := by show (if b % 7 = 5 then _ else _) = _; rw [if_neg (by omega), if_neg (by omega)]
  have s1 : srdN s (b + 2) = (2 * srdN s (b + 1)) % 128 + bt s (b + 1) % 2 := by show (if (b + 1) % 7 = 5 then _ else _) = _; rw [if_neg (by omega), if_neg (by omega)]
  have s2 : srdN s (b + 3) = (2 * srdN s (b + 2)) % 128 + bt s (b + 2) % 2 := by show (if (b + 2) % 7 = 5 then _ else _) = _; rw [if_neg (by omega), if_neg (by omega)]
  have s3 : srdN s (b + 4) = (2 * srdN s (b + 3)) % 128 + bt s (b + 3) % 2 := by show (if (b + 3) % 7 = 5 then _ else _) = _; rw [if_neg (by omega), if_neg (by omega)]
  have s4 : srdN s (b + 5) = (2 * srdN s (b + 4)) % 128 + bt s (b + 4) % 2 := by show (if (b + 4) % 7 = 5 then _ else _) = _; rw [if_neg (by omega), if_neg (by omega)]
  have s5 : srdN s (b + 6) = 0 := by show (if (b + 5) % 7 = 5 then _ else _) = _; rw [if_pos (by omega)]
  have r0 : srdR s (b + 1) = srdR s b := by show (if b % 7 = 5 then _ else _) = _; rw [if_neg (by omega)]
  have r1 : srdR s (b + 2) = srdR s (b + 1) := by show (if (b + 1) % 7 = 5 then _ else _) = _; rw [if_neg (by omega)]
  have r2 : srdR s (b + 3) = srdR s (b + 2) := by show (if (b + 2) % 7 = 5 then _ else _) = _; rw [if_neg (by omega)]
  have r3 : srdR s (b + 4) = srdR s (b + 3) := by show (if (b + 3) % 7 = 5 then _ else _) = _; rw [if_neg (by omega)]
  have r4 : srdR s (b + 5) = srdR s (b + 4) := by show (if (b + 4) % 7 = 5 then _ else _) = _; rw [if_neg (by omega)]
  have r5 : srdR s (b + 6) = srdR s (b + 5) ++ [((2 * srdN s (b + 5)) % 128 + bt s (b + 5) % 2) % 64] := by show (if (b + 5) % 7 = 5 then _ else _) = _; rw [if_pos (by omega)]
  refine ⟨?_, s5⟩
  rw [r5, r4, r3, r2, r1, r0]
  congr 2
  simp only [Nat.sub_zero, Nat.sub_self, show 5 - 1 = 4 from rfl, show 5 - 2 = 3 from rfl, show 5 - 3 = 2 from rfl, show 5 - 4 = 1 from rfl, show (2 : Int) ^ 5 = 32 from rfl, show (2 : Int) ^ 4 = 16 from rfl, show (2 : Int) ^ 3 = 8 from rfl, show (2 : Int) ^ 2 = 4 from rfl, show (2 : Int) ^ 1 = 2 from rfl, show (2 : Int) ^ 0 = 1 from rfl] at e0 e1 e2 e3 e4 e5
  omega

/- The words of a text. -/
def wl (n : Int) : List UInt8 := (wordOf n).data.toList
set_option maxRecDepth 100000 in
theorem wl_facts : ∀ n : Fin 64, (wl (n.val : Int)).length = 6 ∧ (wl (n.val : Int)).contains 47 = false ∧ (∀ q : Fin 6, ((wl (n.val : Int)).getD q.val 0).toNat % 2 = n.val / 2 ^ (5 - q.val) % 2) := by decide +kernel
set_option maxRecDepth 100000 in
theorem wl_row : ∀ n : Fin 64, wordRow ⟨⟨wl (n.val : Int)⟩⟩ = (n.val : Int) := by decide +kernel
theorem as_fin {n : Int} (h : 0 ≤ n ∧ n ≤ 63) : ∃ m : Fin 64, n = (m.val : Int) := ⟨⟨n.toNat, by omega⟩, by show n = (n.toNat : Int); omega⟩
theorem wl_len {n : Int} (h : 0 ≤ n ∧ n ≤ 63) : (wl n).length = 6 := by obtain ⟨m, rfl⟩ := as_fin h; exact (wl_facts m).1
theorem wl_no {n : Int} (h : 0 ≤ n ∧ n ≤ 63) : ¬ (47 : UInt8) ∈ wl n := by
  obtain ⟨m, rfl⟩ := as_fin h
  intro hm
  have := (wl_facts m).2.1
  rw [List.contains_iff_mem.2 hm] at this
  exact absurd this (by decide)
theorem bt_list (s : ByteArray) (i : Nat) : bt s i = ((s.data.toList.getD i 0).toNat : Int) := by
  unfold bt
  split
  · rename_i h
    have h2 : i < s.data.toList.length := by rw [Array.length_toList]; exact h
    rw [List.getD_eq_getElem?_getD, List.getElem?_eq_getElem h2]
    rfl
  · rename_i h
    have h2 : s.data.toList.length ≤ i := by rw [Array.length_toList]; exact Nat.le_of_not_lt h
    rw [List.getD_eq_getElem?_getD, List.getElem?_eq_none h2]
    rfl
theorem srd_at (s : ByteArray) (P Q : List UInt8) {y : Int} (hy : 0 ≤ y ∧ y ≤ 63) (h7 : P.length % 7 = 0) (hL : s.data.toList = P ++ (wl y ++ Q)) (h0 : srdN s P.length = 0) : srdR s (P.length + 6) = srdR s P.length ++ [y] ∧ srdN s (P.length + 6) = 0 := by
  obtain ⟨m, rfl⟩ := as_fin hy
  refine srd_word s P.length h7 m.val m.isLt (fun q hq => ?_) h0
  have hf := (wl_facts m).2.2 ⟨q, hq⟩
  have hl := (wl_facts m).1
  rw [bt_list, hL, List.getD_eq_getElem?_getD, List.getElem?_append_right (by omega), Nat.add_sub_cancel_left, List.getElem?_append_left (by omega), ← List.getD_eq_getElem?_getD]
  have e : ((((wl (m.val : Int)).getD q 0).toNat % 2 : Nat) : Int) = ((m.val / 2 ^ (5 - q) % 2 : Nat) : Int) := congrArg _ hf
  rw [Int.natCast_emod, Int.natCast_emod, Int.natCast_ediv, Int.natCast_pow] at e
  exact e
theorem srd_sep (s : ByteArray) (b : Nat) (h7 : b % 7 = 6) : srdR s (b + 1) = srdR s b ∧ srdN s (b + 1) = 0 := by
  constructor
  · show (if b % 7 = 5 then _ else _) = _
    rw [if_neg (by omega)]
  · show (if b % 7 = 5 then _ else _) = _
    rw [if_neg (by omega), if_pos h7]
/- What strings.Split makes of it. -/
def sp (l : List UInt8) : List (List UInt8) := Go.Lib.splitK [47] 0 (Go.Lib.count l [47]) l
theorem ib_miss : ∀ w : List UInt8, ¬ (47 : UInt8) ∈ w → Go.Lib.indexByte w 47 = -1
  | [], _ => rfl
  | b :: l, h => by
    have hb : ¬ (b == 47) = true := fun e => h (by rw [beq_iff_eq.1 e]; exact List.mem_cons_self)
    have := ib_miss l (fun hm => h (List.mem_cons_of_mem _ hm))
    unfold Go.Lib.indexByte
    rw [if_neg hb, this]; rfl
theorem ib_hit (r : List UInt8) : ∀ w : List UInt8, ¬ (47 : UInt8) ∈ w → Go.Lib.indexByte (w ++ 47 :: r) 47 = w.length
  | [], _ => rfl
  | b :: l, h => by
    have hb : ¬ (b == 47) = true := fun e => h (by rw [beq_iff_eq.1 e]; exact List.mem_cons_self)
    have := ib_hit r l (fun hm => h (List.mem_cons_of_mem _ hm))
    rw [List.cons_append]
    unfold Go.Lib.indexByte
    rw [if_neg hb, this, if_neg (by intro e; have := beq_iff_eq.1 e; omega), List.length_cons]
    omega
theorem sp_miss (w : List UInt8) (h : ¬ (47 : UInt8) ∈ w) : sp w = [w] := by
  have hi : Go.Lib.index w [47] = -1 := by rw [Go.Lib.index_one]; exact ib_miss w h
  unfold sp
  rw [Go.Lib.count_miss hi]
  rfl
theorem sp_hit (w r : List UInt8) (h : ¬ (47 : UInt8) ∈ w) : sp (w ++ 47 :: r) = w :: sp r := by
  have hi : Go.Lib.index (w ++ 47 :: r) [47] = w.length := by rw [Go.Lib.index_one]; exact ib_hit r w h
  have hd : (w ++ 47 :: r).drop (w.length + 1) = r := by simp
  unfold sp
  rw [Go.Lib.count_hit (by decide) hi]
  show Go.Lib.splitK _ _ (1 + Go.Lib.count ((w ++ 47 :: r).drop (w.length + 1)) [47]) _ = _
  rw [hd, Nat.add_comm]
  show (if _ then _ else _) = _
  rw [if_neg (by rw [hi]; intro e; have := beq_iff_eq.1 e; omega), hi]
  show ((w ++ 47 :: r).take (w.length + 0)) :: Go.Lib.splitK _ _ _ ((w ++ 47 :: r).drop (w.length + 1)) = _
  rw [hd, Nat.add_zero, List.take_left]
theorem irdL_sp (s : ByteArray) : (irdL s).map (·.data.toList) = sp s.data.toList := by
  unfold irdL sp
  rw [Go.Lib.splitB_data]
theorem of_data (l : List ByteArray) (m : List Int) (h : l.map (·.data.toList) = m.map wl) (hm : ∀ n ∈ m, 0 ≤ n ∧ n ≤ 63) : l.map wordRow = m ∧ l.length = m.length := by
  induction l generalizing m with
  | nil => cases m with
    | nil => exact ⟨rfl, rfl⟩
    | cons a m => exact absurd h (by simp)
  | cons x l ih => cases m with
    | nil => exact absurd h (by simp)
    | cons a m =>
      rw [List.map_cons, List.map_cons] at h
      obtain ⟨h1, h2⟩ := List.cons.inj h
      obtain ⟨i1, i2⟩ := ih m h2 (fun n hn => hm n (List.mem_cons_of_mem _ hn))
      have hx : x = ⟨⟨wl a⟩⟩ := rd_ba_ext h1
      obtain ⟨k, hk⟩ := as_fin (hm a List.mem_cons_self)
      refine ⟨?_, by rw [List.length_cons, List.length_cons, i2]⟩
      rw [List.map_cons, i1, hx, hk, wl_row k]
theorem txt_wl (l : List Int) (h : okRows l = true) : (txtTo l l.length).data.toList = match l with
    | [] => []
    | [a] => wl a
    | [a, b] => wl a ++ 47 :: wl b
    | a :: b :: c :: _ => wl a ++ 47 :: (wl b ++ 47 :: wl c) := by
  obtain ⟨_, hl⟩ := (okRows_iff l).1 h
  rw [← join_txt l h]
  match l, hl with
  | [], _ => rfl
  | [a], _ => exact Go.Lib.join_one _ _
  | [a, b], _ => simp [Go.Lib.join, List.intercalate, wl]
  | [a, b, c], _ => simp [Go.Lib.join, List.intercalate, wl]
set_option maxHeartbeats 1000000 in
theorem rd_both (x : List Int) (h : okRows x = true) (s : ByteArray) (hs : txtTo x x.length = s) : (srdR s s.size = x ∧ s.size ≤ 21) ∧ (x ≠ [] → (irdL s).map wordRow = x ∧ (irdL s).length = x.length) := by
  obtain ⟨hm, hl⟩ := (okRows_iff x).1 h
  have ht := txt_wl x h
  rw [hs] at ht
  have hz : s.size = s.data.toList.length := by rw [Array.length_toList]; rfl
  have hsp := irdL_sp s
  rcases x with _ | ⟨a, _ | ⟨b, _ | ⟨c, _ | ⟨d, t⟩⟩⟩⟩
  rotate_right
  · exfalso; simp only [List.length_cons] at hl; omega
  ·
    have ht : s.data.toList = [] := ht
    rw [hz, ht]
    exact ⟨⟨rfl, by decide⟩, fun h => absurd rfl h⟩
  ·
    have ht : s.data.toList = wl a := ht
    have ha := hm a (by simp)
    have h1 := srd_at s [] [] ha rfl (by rw [ht]; simp) rfl
    rw [hz, ht, wl_len ha]
    refine ⟨⟨h1.1, by decide⟩, fun _ => of_data _ [a] ?_ hm⟩
    rw [hsp, ht, sp_miss _ (wl_no ha)]
    rfl
  ·
    have ht : s.data.toList = wl a ++ 47 :: wl b := ht
    have ha := hm a (by simp)
    have hb := hm b (by simp)
    have h1 := srd_at s [] (47 :: wl b) ha rfl (by rw [ht]; simp) rfl
    have h2 := srd_sep s 6 rfl
    have hl2 : (wl a ++ [47]).length = 7 := by rw [List.length_append, wl_len ha]; rfl
    have h3 := srd_at s (wl a ++ [47]) [] hb (by rw [hl2]) (by rw [ht]; simp) (by rw [hl2]; exact h2.2)
    rw [hl2] at h3
    rw [hz, ht, show (wl a ++ 47 :: wl b).length = 13 by rw [List.length_append, List.length_cons, wl_len ha, wl_len hb]]
    refine ⟨⟨?_, by decide⟩, fun _ => of_data _ [a, b] ?_ hm⟩
    · rw [show srdR s 13 = srdR s 7 ++ [b] from h3.1, show srdR s 7 = srdR s 6 from h2.1, show srdR s 6 = [a] from h1.1]; rfl
    · rw [hsp, ht, sp_hit _ _ (wl_no ha), sp_miss _ (wl_no hb)]
      rfl
  ·
    have ht : s.data.toList = wl a ++ 47 :: (wl b ++ 47 :: wl c) := ht
    have ha := hm a (by simp)
    have hb := hm b (by simp)
    have hc := hm c (by simp)
    have h1 := srd_at s [] (47 :: (wl b ++ 47 :: wl c)) ha rfl (by rw [ht]; simp) rfl
    have h2 := srd_sep s 6 rfl
    have hl2 : (wl a ++ [47]).length = 7 := by rw [List.length_append, wl_len ha]; rfl
    have h3 := srd_at s (wl a ++ [47]) (47 :: wl c) hb (by rw [hl2]) (by rw [ht]; simp) (by rw [hl2]; exact h2.2)
    rw [hl2] at h3
    have h4 := srd_sep s 13 rfl
    have hl4 : (wl a ++ (47 :: (wl b ++ [47]))).length = 14 := by rw [List.length_append, List.length_cons, List.length_append, wl_len ha, wl_len hb]; rfl
    have h5 := srd_at s (wl a ++ (47 :: (wl b ++ [47]))) [] hc (by rw [hl4]) (by rw [ht]; simp) (by rw [hl4]; exact h4.2)
    rw [hl4] at h5
    rw [hz, ht, show (wl a ++ 47 :: (wl b ++ 47 :: wl c)).length = 20 by rw [List.length_append, List.length_cons, List.length_append, List.length_cons, wl_len ha, wl_len hb, wl_len hc]]
    refine ⟨⟨?_, by decide⟩, fun _ => of_data _ [a, b, c] ?_ hm⟩
    · rw [show srdR s 20 = srdR s 14 ++ [c] from h5.1, show srdR s 14 = srdR s 13 from h4.1, show srdR s 13 = srdR s 7 ++ [b] from h3.1, show srdR s 7 = srdR s 6 from h2.1, show srdR s 6 = [a] from h1.1]; rfl
    · rw [hsp, ht, sp_hit _ _ (wl_no ha), sp_hit _ _ (wl_no hb), sp_miss _ (wl_no hc)]
      rfl
/-- What impl.ReadIndex answers, the empty text too. -/
def irdA (s : ByteArray) : List Int × Bool := if s = ⟨#[]⟩ then ([], true) else irdF s
theorem rd_same (s : ByteArray) : irdA s = srdF s := by
  by_cases hx : ∃ x, okRows x = true ∧ txtTo x x.length = s
  · obtain ⟨x, hok, hs⟩ := hx
    obtain ⟨⟨h1, h2⟩, h3⟩ := rd_both x hok s hs
    have hS : srdF s = (x, true) := by unfold srdF; rw [h1, if_pos ⟨h2, hok, hs⟩]
    rw [hS]
    unfold irdA
    by_cases h0 : s = ⟨#[]⟩
    · rw [if_pos h0]
      have e : srdR s s.size = [] := by rw [h0]; rfl
      rw [← h1, e]
    · rw [if_neg h0]
      have hne : x ≠ [] := fun e => h0 (by rw [← hs, e]; rfl)
      obtain ⟨h4, h5⟩ := h3 hne
      unfold irdF
      rw [h4, h5, if_pos ⟨((okRows_iff x).1 hok).2, hs⟩]
  · have hS : srdF s = ([], false) := by unfold srdF; rw [if_neg (fun h => hx ⟨_, h.2.1, h.2.2⟩)]
    rw [hS]
    unfold irdA
    have h0 : s ≠ ⟨#[]⟩ := fun e => hx ⟨[], rfl, e ▸ rfl⟩
    rw [if_neg h0]
    unfold irdF
    rw [if_neg (fun h => hx ⟨(irdL s).map wordRow, (okRows_iff _).2 ⟨fun n hn => by obtain ⟨y, _, rfl⟩ := List.mem_map.1 hn; exact wordN_range y y.size, by rw [List.length_map]; exact h.1⟩, by rw [List.length_map]; exact h.2⟩)]
end Go.Proofs.YthnpcalkcjkdhaaDoor.Q
