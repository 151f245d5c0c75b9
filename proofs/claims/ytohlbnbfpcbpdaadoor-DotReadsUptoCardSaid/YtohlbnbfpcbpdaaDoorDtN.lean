/- dot: DotReads: the plain law. -/
import Derived.Test.YtohlbnbfpcbpdaaDoorPSxR
import Derived.Test.YtohlbnbfpcbpdaaDoorDtQ
set_option linter.unusedVariables false
set_option linter.unusedSimpArgs false
namespace Go.Proofs.YtohlbnbfpcbpdaaDoor.PS
open Go.RowKit Go.Proofs.YtohlbnbfpcbpdaaDoorW.PrintWords Go.Proofs.YtohlbnbfpcbpdaaDoorW.PrintLast Go.Proofs.YtohlbnbfpcbpdaaDoorW.PrintMore
open Go.Proofs.YtohlbnbfpcbpdaaDoor.Lx Go.Proofs.YtohlbnbfpcbpdaaDoor.Dt

theorem bt_dig (a : ByteArray) (i : Nat) (h : i < a.data.toList.length) : (isDigit (a.data.toList.getD i 0) = true ↔ bt a (i : Int) ≥ 48 ∧ bt a (i : Int) ≤ 57) ∧ bt a (i : Int) = ((a.data.toList.getD i 0).toNat : Int) := by
  have e : a.data.toList.getD i 0 = a.data.toList[i] := by rw [List.getD_eq_getElem?_getD, List.getElem?_eq_getElem h]; rfl
  rw [bt_get a i h, e, isDigit_iff]
  omega
theorem num_stop (k : Nat) (a : ByteArray) (i : Nat) (n : Int) (j : Nat) (ha : a.data.toList.length ≤ 1000000) (hi : i ≤ 1000000) (hj : j ≤ i + 2) (h : j = i + 2 ∨ isDigit (a.data.toList.getD j 0) = false) : assizeref23_numeral.l0 (k + 1) a (i : Int) n (j : Int) = some (n, (j : Int)) := by
  simp only [assizeref23_numeral.l0]
  by_cases h1 : (j : Int) < (a.size : Int)
  · rw [if_pos h1, w64 _ (by omega) (by omega)]
    by_cases h2 : (j : Int) < (i : Int) + 2
    · rw [if_pos h2, if_pos (by omega)]
      have hd := (bt_dig a j (by rw [← size_list]; omega)).1
      have hf : ¬ (bt a (j : Int) ≥ 48 ∧ bt a (j : Int) ≤ 57) := fun q => by
        rcases h with h | h
        · omega
        · rw [hd.2 q] at h; cases h
      by_cases q1 : bt a (j : Int) ≥ 48
      · rw [if_pos q1, if_neg (fun q2 => hf ⟨q1, q2⟩)]
      · rw [if_neg q1]
    · rw [if_neg h2]
  · rw [if_neg h1]
theorem num_step (k : Nat) (a : ByteArray) (i : Nat) (n : Int) (j : Nat) (ha : a.data.toList.length ≤ 1000000) (hi : i ≤ 1000000) (hj : j < i + 2) (h : isDigit (a.data.toList.getD j 0) = true) (hn : 0 ≤ n ∧ n ≤ 1000) :
    assizeref23_numeral.l0 (k + 1) a (i : Int) n (j : Int) = assizeref23_numeral.l0 k a (i : Int) (10 * n + (((a.data.toList.getD j 0).toNat : Int) - 48)) ((j + 1 : Nat) : Int) := by
  have hlt : j < a.data.toList.length := by
    rcases Nat.lt_or_ge j a.data.toList.length with h' | h'
    · exact h'
    · rw [List.getD_eq_getElem?_getD, List.getElem?_eq_none h'] at h
      cases h
  obtain ⟨hd, hb⟩ := bt_dig a j hlt
  obtain ⟨d1, d2⟩ := hd.1 h
  simp only [assizeref23_numeral.l0]
  rw [if_pos (by rw [size_list]; omega), w64 ((i : Int) + 2) (by omega) (by omega), if_pos (by omega), if_pos (by omega), if_pos d1, if_pos d2, ← hb, w64 (10 * n) (by omega) (by omega), show (bt a (j : Int) - 48) % 256 = bt a (j : Int) - 48 by omega, w64 _ (by omega) (by omega), w64 _ (by omega) (by omega)]
  rfl
theorem numeral_pure (k : Nat) (a : ByteArray) (i : Nat) (ha : a.data.toList.length ≤ 1000000) (hi : i ≤ 1000000) (hk : 3 ≤ k) : assizeref23_numeral.f k a (i : Int) = some ((numF a.data.toList i).1, ((numF a.data.toList i).2 : Int)) := by
  obtain ⟨k, rfl⟩ : ∃ m, k = m + 3 := ⟨k - 3, by omega⟩
  unfold assizeref23_numeral.f numF
  cases h1 : isDigit (a.data.toList.getD i 0) with
  | false =>
    rw [num_stop (k + 2) a i 0 i ha hi (by omega) (.inr h1)]
    rfl
  | true =>
    have b1 := (isDigit_iff _).1 h1
    rw [num_step (k + 2) a i 0 i ha hi (by omega) h1 (by omega), if_pos rfl]
    cases h2 : isDigit (a.data.toList.getD (i + 1) 0) with
    | false =>
      rw [num_stop (k + 1) a i _ (i + 1) ha hi (by omega) (.inr h2), if_neg (by decide)]
      simp
    | true =>
      rw [num_step (k + 1) a i _ (i + 1) ha hi (by omega) h2 (by omega), num_stop k a i _ (i + 1 + 1) ha hi (by omega) (.inl (by omega)), if_pos rfl]
      simp
      try omega
theorem numF_bound (l : List UInt8) (i : Nat) : 0 ≤ (numF l i).1 ∧ (numF l i).1 ≤ 1000 ∧ (numF l i).2 ≤ i + 2 := by
  unfold numF
  cases h1 : isDigit (l.getD i 0) with
  | false => rw [if_neg (by decide)]; exact ⟨Int.le_refl _, (by show (0 : Int) ≤ 1000; decide), (by show i ≤ i + 2; omega)⟩
  | true =>
    have b1 := (isDigit_iff _).1 h1
    rw [if_pos rfl]
    cases h2 : isDigit (l.getD (i + 1) 0) with
    | false => rw [if_neg (by decide)]; simp only; omega
    | true =>
      have b2 := (isDigit_iff _).1 h2
      rw [if_pos rfl]
      simp only
      omega
/-- What the search answers, given the place where it ends. -/
def found (f t : Int) (o : Option (Int × Int)) (R : Option (Int × Int × Int × Int × Bool)) : Option (Int × Int × Int × Int × Bool) := match o with
  | some q => some (f, t, q.1, q.2, true)
  | none => R
theorem edge_inner (l0 : List ByteArray) (hn : ∀ n ∈ lists l0, n.length ≤ 32) (hl : l0.length ≤ 64) (s : ByteArray) (hs : s.data.toList ≠ []) (f t c x8 : Int) (M : Nat) (R : Option (Int × Int × Int × Int × Bool))
    (hR : ∀ k, M ≤ k → assizeref23_edge.l0 k l0 s (wrap64 (x8 * 2)) f t c (l0.length : Int) = R) : ∀ (r j k : Nat), j + r = l0.length + 1 → M + 201 + r + 1 ≤ k →
    assizeref23_edge.l1 k l0 s x8 f t c ((j : Int) - 1) = found f t (((List.range' j r).map fun i : Nat => (c, (i : Int) - 1)).find? fun q => decide (lineR (lists l0) ⟨f, t, q.1, q.2⟩ = some s.data.toList)) R
  | 0, j, k, hj, hk => by
    obtain ⟨k, rfl⟩ : ∃ m, k = m + 1 := ⟨k - 1, by omega⟩
    simp only [assizeref23_edge.l1]
    rw [if_neg (by omega), show ((j : Int) - 1) = (l0.length : Int) by omega, hR k (by omega)]
    rfl
  | r + 1, j, k, hj, hk => by
    obtain ⟨k, rfl⟩ : ∃ m, k = m + 1 := ⟨k - 1, by omega⟩
    simp only [assizeref23_edge.l1]
    rw [if_pos (by omega), line_pure k l0 hn f t c _ (by omega), Option.bind_some, toL_B, toL, List.range'_succ, List.map_cons, List.find?_cons]
    by_cases h : lineR (lists l0) ⟨f, t, c, (j : Int) - 1⟩ = some s.data.toList
    · rw [h, Option.getD_some, if_pos rfl, decide_eq_true rfl]
      rfl
    · rw [if_neg (fun q => h (by
        cases hx : lineR (lists l0) ⟨f, t, c, (j : Int) - 1⟩ with
        | none => rw [hx] at q; exact absurd q.symm hs
        | some x => rw [hx] at q; rw [← q]; rfl)), decide_eq_false h, w64 _ (by omega) (by omega)]
      simp only
      rw [show ((j : Int) - 1 + 1) = ((j + 1 : Nat) : Int) - 1 by omega]
      exact edge_inner l0 hn hl s hs f t c x8 M R hR r (j + 1) k (by omega) (by omega)
theorem edge_kind (l0 : List ByteArray) (hn : ∀ n ∈ lists l0, n.length ≤ 32) (hl : l0.length ≤ 64) (s : ByteArray) (hs : s.data.toList ≠ []) (f t c c2 : Int) (hc : c ≤ 16) (hc2 : wrap64 (c * 2) = c2) (M : Nat) (R : Option (Int × Int × Int × Int × Bool))
    (hR : ∀ k, M ≤ k → assizeref23_edge.l0 k l0 s c2 f t c (l0.length : Int) = R) (x y : Int) : ∀ k, M + 300 ≤ k →
    assizeref23_edge.l0 k l0 s c f t x y = found f t (((List.range (l0.length + 1)).map fun i : Nat => (c, (i : Int) - 1)).find? fun q => decide (lineR (lists l0) ⟨f, t, q.1, q.2⟩ = some s.data.toList)) R := by
  intro k hk
  subst hc2
  obtain ⟨k, rfl⟩ : ∃ m, k = m + 1 := ⟨k - 1, by omega⟩
  simp only [assizeref23_edge.l0]
  rw [if_pos hc]
  have := edge_inner l0 hn hl s hs f t c c M R hR (l0.length + 1) 0 k (by omega) (by omega)
  rw [List.range_eq_range']
  exact this
theorem found_or (f t : Int) (a b : Option (Int × Int)) (R : Option (Int × Int × Int × Int × Bool)) : found f t a (found f t b R) = found f t (a.or b) R := by
  cases a <;> rfl
theorem edge_pure (l0 : List ByteArray) (hn : ∀ n ∈ lists l0, n.length ≤ 32) (hl : l0.length ≤ 64) (s : ByteArray) (hs : s.data.toList.length ≤ 900000) (k : Nat) (hk : 2000 ≤ k) :
    ∃ x1 x2 x3 x4, assizeref23_edge.f k l0 s = some (x1, x2, x3, x4, (edgeF (lists l0) s.data.toList).isSome) ∧ ∀ d, edgeF (lists l0) s.data.toList = some d → x1 = d.f ∧ x2 = d.t ∧ x3 = d.k ∧ x4 = d.y := by
  unfold assizeref23_edge.f edgeF
  by_cases h3 : s.data.toList.length < 3
  · rw [if_pos h3, if_pos (by rw [size_list]; omega)]
    exact ⟨0, 0, 0, -1, rfl, fun d h => by cases h⟩
  · rw [if_neg h3, if_neg (by rw [size_list]; omega)]
    have b1 := numF_bound s.data.toList 3
    rw [show (3 : Int) = ((3 : Nat) : Int) from rfl, numeral_pure k s 3 (by omega) (by omega) (by omega), Option.bind_some]
    simp only
    generalize numF s.data.toList 3 = N1 at *
    rw [w64 _ (by omega) (by omega), show ((N1.2 : Int) + 5) = ((N1.2 + 5 : Nat) : Int) by omega, numeral_pure k s (N1.2 + 5) (by omega) (by omega) (by omega), Option.bind_some]
    simp only
    generalize (numF s.data.toList (N1.2 + 5)).1 = T
    have hs0 : s.data.toList ≠ [] := fun e => by rw [e] at h3; exact h3 (by decide)
    have l32 : ∀ k, 1 ≤ k → assizeref23_edge.l0 k l0 s 32 N1.1 T 16 (l0.length : Int) = some (N1.1, T, 16, (l0.length : Int), false) := fun k hk => by
      obtain ⟨k, rfl⟩ : ∃ m, k = m + 1 := ⟨k - 1, by omega⟩
      simp only [assizeref23_edge.l0]
      rw [if_neg (by decide)]
    have l16 := edge_kind l0 hn hl s hs0 N1.1 T 16 32 (by decide) (w64 _ (by decide) (by decide)) 1 _ l32 8 (l0.length : Int)
    have l8 := edge_kind l0 hn hl s hs0 N1.1 T 8 16 (by decide) (w64 _ (by decide) (by decide)) 301 _ l16 4 (l0.length : Int)
    have l4 := edge_kind l0 hn hl s hs0 N1.1 T 4 8 (by decide) (w64 _ (by decide) (by decide)) 601 _ l8 2 (l0.length : Int)
    have l2 := edge_kind l0 hn hl s hs0 N1.1 T 2 4 (by decide) (w64 _ (by decide) (by decide)) 901 _ l4 1 (l0.length : Int)
    have l1 := edge_kind l0 hn hl s hs0 N1.1 T 1 2 (by decide) (w64 _ (by decide) (by decide)) 1201 _ l2 0 (-1)
    rw [l1 k (by omega), found_or, found_or, found_or, found_or]
    have e : candF (lists l0).length = ((List.range (l0.length + 1)).map fun j : Nat => ((1 : Int), (j : Int) - 1)) ++ (((List.range (l0.length + 1)).map fun j : Nat => ((2 : Int), (j : Int) - 1)) ++ (((List.range (l0.length + 1)).map fun j : Nat => ((4 : Int), (j : Int) - 1)) ++ (((List.range (l0.length + 1)).map fun j : Nat => ((8 : Int), (j : Int) - 1)) ++ ((List.range (l0.length + 1)).map fun j : Nat => ((16 : Int), (j : Int) - 1))))) := by
      unfold candF
      rw [lists_len]
      simp
    rw [e]
    simp only [List.find?_append, Option.or_assoc]
    generalize (Option.or _ _ : Option (Int × Int)) = o
    cases o with
    | none => exact ⟨_, _, _, _, rfl, fun d h => by cases h⟩
    | some q => exact ⟨_, _, _, _, rfl, fun d h => by cases h; exact ⟨rfl, rfl, rfl, rfl⟩⟩
def resF : Option (List Ed) → List S34 × Int
  | none => ([], 230)
  | some l => (l.map ofE, 0)
theorem body_loop (l0 : List ByteArray) (hn : ∀ n ∈ lists l0, n.length ≤ 32) (hl : l0.length ≤ 64) (a : ByteArray) (B : List UInt8) (hB : a.data.toList = hd ++ (B ++ tl)) (hBl : B.length ≤ 20000) : ∀ (n K p q F : Nat) (acc : List Ed), n = B.length - q → p ≤ q → q ≤ B.length → (10 : UInt8) ∉ (B.drop p).take (q - p) →
    acc.length ≤ 262144 → n + 2500 ≤ K → B.length - p < F → assizeref23_Read.l0 K l0 a (acc.map ofE) ((18 + p : Nat) : Int) ((18 + q : Nat) : Int) = some (resF (bodyF (lists l0) F (B.drop p) acc)) := by
  have hsz : a.size = B.length + 20 := by rw [size_list, hB]; simp only [List.length_append, hd, tl, List.length_cons, List.length_nil]; omega
  have hw : wrap64 ((a.size : Int) - 2) = ((18 + B.length : Nat) : Int) := by rw [hsz, w64 _ (by omega) (by omega)]; omega
  intro n
  induction n with
  | zero =>
    intro K p q F acc hn0 hpq hq h10 hacc hK hF
    obtain ⟨K, rfl⟩ : ∃ m, K = m + 1 := ⟨K - 1, by omega⟩
    obtain ⟨F, rfl⟩ : ∃ m, F = m + 1 := ⟨F - 1, by omega⟩
    obtain rfl : q = B.length := by omega
    have h10' : (10 : UInt8) ∉ B.drop p := by rwa [List.take_of_length_le (by simp)] at h10
    have eB : bodyF (lists l0) (F + 1) (B.drop p) acc = if B.drop p = [] then some acc else none := by
      rw [bodyF, cut_none h10']
      exact if_neg Bool.false_ne_true
    simp only [assizeref23_Read.l0]
    rw [hw, if_neg (by omega), eB]
    by_cases hp : p = B.length
    · rw [if_pos (by omega), if_pos (by rw [hp]; simp)]
      rfl
    · rw [if_neg (by omega), if_neg (by intro h; have := congrArg List.length h; simp at this; omega)]
      rfl
  | succ n ih =>
    intro K p q F acc hn0 hpq hq h10 hacc hK hF
    obtain ⟨K, rfl⟩ : ∃ m, K = m + 1 := ⟨K - 1, by omega⟩
    have hlt : q < B.length := by omega
    have hg : a.data.toList[18 + q]? = some B[q] := by
      rw [hB, List.getElem?_append_right (by simp [hd]), List.getElem?_append_left (by simp [hd]; omega)]
      simp [hd, hlt]
    have hbt : bt a ((18 + q : Nat) : Int) = (B[q].toNat : Int) := by
      have hh : 18 + q < a.data.toList.length := by rw [← size_list]; omega
      rw [bt_get a (18 + q) hh]
      have : a.data.toList[18 + q] = B[q] := by rw [List.getElem?_eq_getElem hh] at hg; exact Option.some.inj hg
      rw [this]
    simp only [assizeref23_Read.l0]
    rw [hw, if_pos (by omega), if_pos (by omega), if_pos (by omega), hbt]
    by_cases hc : B[q] = 10
    · rw [if_pos (by rw [hc]; rfl), if_pos (by omega), w64 _ (by omega) (by omega), if_pos (by omega), if_pos (by omega)]
      obtain ⟨F, rfl⟩ : ∃ m, F = m + 1 := ⟨F - 1, by omega⟩
      have hsplit : B.drop p = (B.drop p).take (q - p) ++ 10 :: B.drop (q + 1) := by
        conv => lhs; rw [← List.take_append_drop (q - p) (B.drop p)]
        rw [List.drop_drop, show p + (q - p) = q by omega, List.drop_eq_getElem_cons hlt, hc]
      have hcut : Lib.cut (B.drop p) [10] = ((B.drop p).take (q - p), B.drop (q + 1), true) := by
        have := cut_first 10 [] ((B.drop p).take (q - p)) (B.drop (q + 1)) h10
        rw [show (B.drop p).take (q - p) ++ (10 :: [] ++ B.drop (q + 1)) = B.drop p from hsplit.symm] at this
        exact this
      have hex : (a.extract (((18 + p : Nat) : Int)).toNat ((((18 + q : Nat) : Int) + 1)).toNat).data.toList = (B.drop p).take (q - p) ++ [10] := by
        rw [Lib.extract_data, hB, show (((18 + q : Nat) : Int) + 1).toNat = 18 + q + 1 by omega, Int.toNat_natCast]
        have e1 : (hd ++ (B ++ tl)).drop (18 + p) = B.drop p ++ tl := by
          rw [show 18 + p = hd.length + p from rfl, ← List.drop_drop, List.drop_left, List.drop_append_of_le_length (by omega)]
        rw [e1, List.take_append_of_le_length (by simp; omega), show 18 + q + 1 - (18 + p) = (q - p) + 1 by omega, List.take_succ_eq_append_getElem (by simp; omega)]
        congr 2
        simp only [List.getElem_drop]
        rw [← hc]
        congr 1
        omega
      obtain ⟨x1, x2, x3, x4, he, hd4⟩ := edge_pure l0 hn hl (a.extract (((18 + p : Nat) : Int)).toNat ((((18 + q : Nat) : Int) + 1)).toNat) (by rw [hex]; simp; omega) K (by omega)
      have eB : bodyF (lists l0) (F + 1) (B.drop p) acc = match edgeF (lists l0) ((B.drop p).take (q - p) ++ [10]) with
        | none => none
        | some e => if 262144 ≤ acc.length then none else bodyF (lists l0) F (B.drop (q + 1)) (acc ++ [e]) := by
        rw [bodyF, hcut]
        exact if_pos rfl
      rw [hex] at he hd4
      rw [he, Option.bind_some, eB]
      simp only
      cases hE : edgeF (lists l0) ((B.drop p).take (q - p) ++ [10]) with
      | none =>
        rw [Option.isSome_none, if_neg (by decide)]
        rfl
      | some d =>
        rw [Option.isSome_some, if_pos rfl]
        obtain ⟨rfl, rfl, rfl, rfl⟩ := hd4 d hE
        simp only
        by_cases h2 : 262144 ≤ acc.length
        · rw [if_pos (by rw [List.length_map]; omega), if_pos h2]
          rfl
        · rw [if_neg (by rw [List.length_map]; omega), if_neg h2, if_pos (by rw [List.length_map]; omega)]
          have e2 : acc.map ofE ++ [(⟨d.f, d.t, d.k, d.y⟩ : S34)] = (acc ++ [d]).map ofE := by simp [ofE]
          rw [e2, show (((18 + q : Nat) : Int) + 1) = ((18 + (q + 1) : Nat) : Int) by omega]
          exact ih K (q + 1) (q + 1) F (acc ++ [d]) (by omega) (by omega) (by omega) (by simp) (by rw [List.length_append]; simp; omega) (by omega) (by omega)
    · rw [if_neg (fun h => hc (by apply UInt8.toNat_inj.1; have : (10 : UInt8).toNat = 10 := rfl; omega)), w64 _ (by omega) (by omega), show (((18 + q : Nat) : Int) + 1) = ((18 + (q + 1) : Nat) : Int) by omega]
      refine ih K p (q + 1) F acc (by omega) (by omega) (by omega) ?_ hacc (by omega) hF
      rw [show q + 1 - p = (q - p) + 1 by omega, List.take_succ_eq_append_getElem (by simp; omega), List.mem_append, List.mem_singleton]
      rintro (h | h)
      · exact h10 h
      · apply hc
        rw [h]
        simp only [List.getElem_drop]
        congr 1
        omega
theorem Read_pure (l0 : List ByteArray) (hnm : namesOk l0 = true) (hl : l0.length ≤ 64) (a : ByteArray) (ha : a.data.toList.length ≤ 20000) (k : Nat) (hk : 30000 ≤ k) :
    assizeref23_Read.f k l0 a = some ((readF (lists l0) a.data.toList).1.map ofE, (readF (lists l0) a.data.toList).2) := by
  unfold assizeref23_Read.f readF
  rw [wrong_f k hnm, Option.bind_some]
  have J1 : assizeref23_Read.j0 k l0 a true = some (([] : List S34), 230) := by
    obtain ⟨k, rfl⟩ : ∃ m, k = m + 1 := ⟨k - 1, by omega⟩
    simp only [assizeref23_Read.j0]
    rw [if_pos trivial]
  by_cases hw : wrongR (lists l0) = 0
  · obtain ⟨_, hn⟩ := wrongR_zero hw
    rw [if_pos hw, if_pos hw]
    by_cases hok : (Lib.hasPrefix a.data.toList hd && Lib.hasSuffix (Lib.trimPrefix a.data.toList hd) tl) = true
    · have hok' := hok
      rw [Bool.and_eq_true] at hok'
      have e1 := prefix_true hok'.1
      have e2 := suffix_true hok'.2
      have hB : a.data.toList = hd ++ (Lib.trimSuffix (Lib.trimPrefix a.data.toList hd) tl ++ tl) := by rw [← e2]; exact e1
      rw [if_pos hok]
      generalize Lib.trimSuffix (Lib.trimPrefix a.data.toList hd) tl = B at *
      have hlen : a.data.toList.length = B.length + 20 := by rw [hB]; simp only [List.length_append, hd, tl, List.length_cons, List.length_nil]; omega
      have hsz : a.size = B.length + 20 := hlen
      have x1 : (a.extract 0 18).toList = hd := by
        rw [toL, Lib.extract_data, hB, List.drop_zero, show 18 - 0 = hd.length from rfl, List.take_left]
      have x2 : (a.extract (wrap64 ((a.size : Int) - 2)).toNat a.size).toList = tl := by
        rw [toL, Lib.extract_data, hsz, w64 _ (by omega) (by omega), hB, ← List.append_assoc]
        have e3 : (((B.length + 20 : Nat) : Int) - 2).toNat = (hd ++ B).length := by rw [List.length_append]; simp only [hd, List.length_cons, List.length_nil]; omega
        rw [e3, List.drop_left]
        exact List.take_of_length_le (by simp only [List.length_append, hd, tl, List.length_cons, List.length_nil]; omega)
      rw [if_neg (by omega), if_pos (by decide), if_pos (by omega), x1, if_pos (show hd = ([100, 105, 103, 114, 97, 112, 104, 32, 104, 105, 115, 116, 111, 114, 121, 32, 123, 10] : List UInt8) from rfl), if_pos (by rw [hsz, w64 _ (by omega) (by omega)]; omega), if_pos (by rw [w64 _ (by omega) (by omega)]; omega), x2]
      obtain ⟨k, rfl⟩ : ∃ m, k = m + 1 := ⟨k - 1, by omega⟩
      simp only [assizeref23_Read.j0]
      rw [if_neg (by decide)]
      have := body_loop l0 hn hl a B hB (by omega) B.length k 0 0 (a.data.toList.length + 1) [] (by omega) (by omega) (by omega) (by simp) (by simp) (by omega) (by omega)
      simp only [List.map_nil, Nat.add_zero, List.drop_zero] at this
      rw [show ((18 : Nat) : Int) = 18 from rfl] at this
      rw [this]
      cases bodyF (lists l0) (a.data.toList.length + 1) B [] <;> rfl
    · rw [if_neg hok]
      by_cases h20 : (a.size : Int) < 20
      · rw [if_pos h20, J1]
        rfl
      · have hsz : 20 ≤ a.data.toList.length := by rw [← size_list]; omega
        have hsq := size_list a
        rw [if_neg h20, if_pos (by decide), if_pos (by omega)]
        by_cases x1 : (a.extract 0 18).toList = ([100, 105, 103, 114, 97, 112, 104, 32, 104, 105, 115, 116, 111, 114, 121, 32, 123, 10] : List UInt8)
        · rw [if_pos x1, if_pos (by rw [w64 _ (by omega) (by omega)]; omega), if_pos (by rw [w64 _ (by omega) (by omega)]; omega)]
          have x2 : ((a.extract (wrap64 ((a.size : Int) - 2)).toNat a.size).toList != ([125, 10] : List UInt8)) = true := by
            rw [bne_iff_ne]
            intro h2
            apply hok
            rw [toL, Lib.extract_data, List.drop_zero] at x1
            have hs : a.data.toList = hd ++ a.data.toList.drop 18 := by
              conv => lhs; rw [← List.take_append_drop 18 a.data.toList]
              rw [show a.data.toList.take 18 = hd from x1]
            rw [toL, Lib.extract_data, w64 _ (by omega) (by omega)] at h2
            have e3 : ((a.size : Int) - 2).toNat = a.data.toList.length - 2 := by rw [size_list]; omega
            rw [e3, List.take_of_length_le (by rw [List.length_drop]; omega)] at h2
            have hs2 : a.data.toList.drop 18 = (a.data.toList.drop 18).take (a.data.toList.length - 20) ++ tl := by
              conv => lhs; rw [← List.take_append_drop (a.data.toList.length - 20) (a.data.toList.drop 18)]
              rw [List.drop_drop, show 18 + (a.data.toList.length - 20) = a.data.toList.length - 2 by omega]
              rw [h2]
              rfl
            obtain ⟨g1, g2⟩ := prefix_app hd (a.data.toList.drop 18)
            rw [← hs] at g1 g2
            rw [g1, g2, hs2]
            exact (suffix_app tl _).1
          rw [x2, J1]
          rfl
        · rw [if_neg x1, J1]
          rfl
  · rw [if_neg hw, if_neg hw]
    rfl
theorem readR_len (names : List (List UInt8)) (s : List UInt8) : (readR names s).1.length ≤ 262144 := by
  by_cases h : (readR names s).2 = 0
  · have hr : readR names s = ((readR names s).1, 0) := by rw [← h]
    have hp := print_of_read hr
    rcases printR_cases names (readR names s).1 with ⟨q, _⟩ | ⟨_, q, _⟩
    · rw [hp] at q; exact absurd rfl q
    · exact q
  · rw [read_bad h]
    simp
theorem DotReads_pure (l0 : List ByteArray) (a1 : ByteArray) (hn : namesOk l0 = true) : assizelaw23_DotReads.f KK l0 a1 = some true := by
  unfold assizelaw23_DotReads.f
  rw [alive_pure, Option.bind_some, if_pos rfl]
  unfold assizelaw23_few.f
  by_cases h1 : (l0.length : Int) ≤ 64
  · rw [if_pos h1, Option.bind_some]
    by_cases h2 : (a1.size : Int) ≤ 20000
    · rw [decide_eq_true h2, if_pos rfl, Read_f KK hn (by omega), Option.bind_some, Read_pure l0 hn (by omega) a1 (by rw [← size_list]; omega) KK (by decide), Option.bind_some, readF_eq]
      have hlen := readR_len (lists l0) a1.data.toList
      simp only
      rw [if_pos trivial, same_pure _ (by rw [List.length_map]; omega) _ (by rw [List.length_map]; unfold KK; omega)]
      rfl
    · rw [decide_eq_false h2, if_neg (by decide)]
  · rw [if_neg h1, Option.bind_some, if_neg (by decide)]
end Go.Proofs.YtohlbnbfpcbpdaaDoor.PS
