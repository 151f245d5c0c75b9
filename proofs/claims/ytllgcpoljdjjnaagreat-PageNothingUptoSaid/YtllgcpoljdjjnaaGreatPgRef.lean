/- The reference's functions, as printed, are the plain ones: SameTexts, escaped, Parse; and the fixed fact. -/
import Derived.Test.YtllgcpoljdjjnaaGreatPSx2
import Derived.Test.YtllgcpoljdjjnaaGreatPgPlain
set_option linter.unusedVariables false
set_option linter.unusedSimpArgs false
namespace Go.Proofs.YtllgcpoljdjjnaaGreat.PS
open Go.RowKit Go.Proofs.YtllgcpoljdjjnaaGreatW.PrintWords Go.Proofs.YtllgcpoljdjjnaaGreatW.PrintLast Go.Proofs.YtllgcpoljdjjnaaGreatW.PrintMore
open Go.Proofs.YtllgcpoljdjjnaaGreat.Pg

theorem w64 (n : Int) (h0 : 0 ≤ n) (h1 : n < 9223372036854775808) : wrap64 n = n := by unfold wrap64; omega
theorem toL (a : ByteArray) : a.toList = a.data.toList := Lib.toList_data a
theorem toL_toB (l : List UInt8) : (toB l).toList = l := by rw [toL]; rfl
theorem size_toB (l : List UInt8) : (toB l).size = l.length := by simp [toB, ByteArray.size]
theorem bt_nat (a : ByteArray) (i : Nat) (c : UInt8) (r : List UInt8) (h : a.data.toList.drop i = c :: r) : bt a (i : Int) = (c.toNat : Int) ∧ i < a.size := by
  have h1 : a.data.toList[i]? = some c := by
    have := congrArg List.head? h
    rw [List.head?_drop] at this
    exact this
  obtain ⟨hlt, he⟩ := List.getElem?_eq_some_iff.1 h1
  have hlt2 : i < a.size := by rw [size_list]; exact hlt
  refine ⟨?_, hlt2⟩
  unfold bt
  rw [Int.toNat_natCast, dif_pos hlt2]
  have : a[i]'hlt2 = c := by rw [← he]; rfl
  rw [this]
theorem same_loop (l : List ByteArray) (hl : l.length < 4611686018427387904) : ∀ (n k i : Nat), n = l.length - i → i ≤ l.length → n < k → assizeref24_SameTexts.l0 k l l (i : Int) = some true
  | 0, k + 1, i, hn, hi, _ => by
    unfold assizeref24_SameTexts.l0
    rw [if_neg (by omega)]
  | n + 1, k + 1, i, hn, hi, hk => by
    unfold assizeref24_SameTexts.l0
    rw [if_pos (by omega), if_pos (by omega), if_pos (by omega), if_pos rfl, w64 _ (by omega) (by omega)]
    exact same_loop l hl n k (i + 1) (by omega) (by omega) (by omega)
theorem same_pure (l : List ByteArray) (hl : l.length < 4611686018427387904) (k : Nat) (hk : l.length < k) : assizeref24_SameTexts.f k l l = some true := by
  unfold assizeref24_SameTexts.f
  rw [if_pos rfl]
  exact same_loop l hl l.length k 0 (by omega) (by omega) hk

theorem esc_five : ∀ j : Nat, j < 5 → bt (⟨#[38, 60, 62, 34, 39]⟩ : ByteArray) (j : Int) = ((Pg.keyOf j).toNat : Int) ∧ assizeref24_escape.f ((Pg.keyOf j).toNat : Int) = some (toB (Pg.valOf j)) := by
  intro j hj
  match j, hj with
  | 0, _ => exact ⟨rfl, rfl⟩
  | 1, _ => exact ⟨rfl, rfl⟩
  | 2, _ => exact ⟨rfl, rfl⟩
  | 3, _ => exact ⟨rfl, rfl⟩
  | 4, _ => exact ⟨rfl, rfl⟩
theorem ext_list (a : ByteArray) (i n : Nat) : (a.extract i (i + n)).toList = (a.data.toList.drop i).take n := by
  rw [toL, ByteArray.data_extract, Array.toList_extract, List.extract_eq_take_drop]
  congr 1
  omega
theorem escaped_loop (a : ByteArray) (i : Nat) (hi : i ≤ a.size) (ha : a.size ≤ 1000000000000) : ∀ (n k j : Nat), n = 5 - j → j ≤ 5 → n < k → assizeref24_escaped.l0 k a (i : Int) (j : Int) = some (match unesc (a.data.toList.drop i) j with | none => (0, 0) | some m => (((Pg.keyOf m).toNat : Int), ((Pg.valOf m).length : Int)))
  | 0, k + 1, j, hn, hj, _ => by
    obtain rfl : j = 5 := by omega
    unfold assizeref24_escaped.l0
    rw [if_neg (by omega), unesc_end]
  | n + 1, k + 1, j, hn, hj, hk => by
    have hj5 : j < 5 := by omega
    obtain ⟨e1, e2⟩ := esc_five j hj5
    have hv := val_len j
    have ih := escaped_loop a i hi ha n k (j + 1) (by omega) (by omega) (by omega)
    unfold assizeref24_escaped.l0
    rw [if_pos (by omega), if_pos (by omega), e1, e2, Option.bind_some, size_toB, w64 _ (by omega) (by omega), w64 ((j : Int) + 1) (by omega) (by omega)]
    have hdl : (a.data.toList.drop i).length = a.size - i := by rw [List.length_drop, ← size_list]
    by_cases hfit : i + (Pg.valOf j).length ≤ a.size
    · rw [if_pos (by omega), if_pos (by omega), if_pos (by omega)]
      have et : (((i : Int) + ((Pg.valOf j).length : Int)) : Int).toNat = i + (Pg.valOf j).length := by omega
      rw [et, Int.toNat_natCast, ext_list, toL_toB]
      cases hp : (Pg.valOf j).isPrefixOf (a.data.toList.drop i) with
      | true =>
        have hpre := List.isPrefixOf_iff_prefix.1 hp
        rw [if_pos (List.prefix_iff_eq_take.1 hpre).symm, unesc_hit _ j hj5 hp]
      | false =>
        rw [if_neg (fun e => by
          have : Pg.valOf j <+: a.data.toList.drop i := List.prefix_iff_eq_take.2 e.symm
          rw [List.isPrefixOf_iff_prefix.2 this] at hp
          cases hp), unesc_step _ j hj5 hp]
        exact ih
    · rw [if_neg (by omega)]
      have hp : (Pg.valOf j).isPrefixOf (a.data.toList.drop i) = false := by
        cases hp : (Pg.valOf j).isPrefixOf (a.data.toList.drop i) with
        | false => rfl
        | true =>
          have := (List.isPrefixOf_iff_prefix.1 hp).length_le
          omega
      rw [unesc_step _ j hj5 hp]
      exact ih

def outR (tg : List (List UInt8)) (b : List UInt8) : Option (List (List UInt8) × List UInt8) → List ByteArray × ByteArray × Int
  | none => ([], ⟨#[]⟩, 240)
  | some x => ((tg ++ x.1).map toB, toB (b ++ x.2), 0)
def numsB (b : List UInt8) : List Int := b.map fun c => (c.toNat : Int)
theorem nums_str (b : List UInt8) : strOfNums (numsB b) = toB b := by
  unfold strOfNums numsB toB
  have e : ((fun n : Int => UInt8.ofNat n.toNat) ∘ fun c : UInt8 => (c.toNat : Int)) = id := by funext c; simp
  rw [List.map_map, e, List.map_id]
theorem numsB_len (b : List UInt8) : (numsB b).length = b.length := by simp [numsB]
theorem numsB_snoc (b : List UInt8) (c : UInt8) : numsB b ++ [(c.toNat : Int)] = numsB (b ++ [c]) := by simp [numsB]
theorem scan (a : ByteArray) (ha : a.size ≤ 1000000000000) (tg : List (List UInt8)) (b : List UInt8) (i : Nat) (htg : tg.length ≤ i) : ∀ (q p : List UInt8) (k : Nat), a.data.toList.drop (i + 1) = p ++ q → (∀ c, c ∈ p → chs2.contains c = false) → 2 * q.length + 11 ≤ k → i + 1 + p.length ≤ a.size →
    (∀ (s r : List UInt8) (k' : Nat), q = s ++ 62 :: r → (∀ c, c ∈ s → chs2.contains c = false) → 2 * r.length + 10 ≤ k' → assizeref24_Parse.l0 k' a ((tg ++ [p ++ s]).map toB) (numsB b) ((i + 1 + (p ++ s).length + 1 : Nat) : Int) = some (outR (tg ++ [p ++ s]) b (prs r))) →
    assizeref24_Parse.l1 k a (tg.map toB) (numsB b) (i : Int) ((i + 1 + p.length : Nat) : Int) = some (outR tg b (prs (60 :: (p ++ q))))
  | [], p, k + 1, hd, hp, _, hsz, _ => by
    have hlen : a.size - (i + 1) = p.length := by
      have := congrArg List.length hd
      rwa [List.length_drop, ← size_list, List.append_nil] at this
    unfold assizeref24_Parse.l1
    rw [List.append_nil, prs_bad p (.inl hp)]
    rw [if_neg (by omega), if_pos (by omega)]
    rfl
  | c :: q, p, k + 1, hd, hp, hk, hsz, hrest => by
    simp only [List.length_cons] at hk
    have hd2 : a.data.toList.drop (i + 1 + p.length) = c :: q := by rw [← List.drop_drop, hd, List.drop_left' rfl]
    obtain ⟨hbt, hlt⟩ := bt_nat a _ c q hd2
    unfold assizeref24_Parse.l1
    rw [if_pos (by omega), if_pos (by omega), hbt]
    by_cases h62 : c = 62
    · subst h62
      rw [if_pos (by rfl), if_neg (by omega), if_neg (by decide), w64 _ (by omega) (by omega), if_pos (by omega), if_pos (by omega), if_pos (by omega), if_pos (by rw [List.length_map]; omega), w64 _ (by omega) (by omega)]
      have e1 : a.extract (((i : Int) + 1) : Int).toNat (((i + 1 + p.length : Nat) : Int) : Int).toNat = toB p := by
        have h1 : (((i : Int) + 1) : Int).toNat = i + 1 := by omega
        rw [h1, Int.toNat_natCast]
        have h2 := ext_list a (i + 1) p.length
        rw [hd, List.take_left' rfl, toL] at h2
        rw [← toB_list (a.extract (i + 1) (i + 1 + p.length)), h2]
      have e2 : tg.map toB ++ [toB p] = (tg ++ [p]).map toB := by simp
      have h := hrest [] q k rfl (by simp) (by omega)
      rw [List.append_nil] at h
      rw [e1, e2, prs_tag p q hp]
      have e3 : ((i + 1 + p.length : Nat) : Int) + 1 = ((i + 1 + p.length + 1 : Nat) : Int) := by omega
      rw [e3, h]
      cases prs q <;> simp [outR]
    · have hc62 : ¬ (c.toNat : Int) = 62 := fun e => h62 (UInt8.toNat_inj.1 (by show c.toNat = 62; omega))
      rw [if_neg hc62]
      by_cases h60 : c = 60
      · subst h60
        rw [if_pos (by rfl), if_neg (by omega), prs_bad (p ++ 60 :: q) (.inr ⟨p, q, rfl, hp⟩)]
        rfl
      · have hc60 : ¬ (c.toNat : Int) = 60 := fun e => h60 (UInt8.toNat_inj.1 (by show c.toNat = 60; omega))
        rw [if_neg hc60, w64 _ (by omega) (by omega)]
        have hcn : chs2.contains c = false := by simp [chs2, h60, h62]
        have ih := scan a ha tg b i htg q (p ++ [c]) k (by rw [hd]; simp) (fun x hx => by
          rcases List.mem_append.1 hx with hx | hx
          · exact hp x hx
          · rw [List.mem_singleton.1 hx]; exact hcn) (by omega) (by rw [List.length_append]; simp only [List.length_cons, List.length_nil]; omega) (fun s r k' hq hs hk' => by
          have h := hrest (c :: s) r k' (by rw [hq]; rfl) (fun x hx => by
            rcases List.mem_cons.1 hx with rfl | hx
            · exact hcn
            · exact hs x hx) hk'
          have e : p ++ [c] ++ s = p ++ c :: s := by simp
          rw [e]
          exact h)
        have e4 : ((i + 1 + p.length : Nat) : Int) + 1 = ((i + 1 + (p ++ [c]).length : Nat) : Int) := by rw [List.length_append]; simp only [List.length_cons, List.length_nil]; omega
        rw [e4, ih]
        simp
theorem parse_loop (a : ByteArray) (ha : a.size ≤ 1000000000000) : ∀ (n : Nat) (i k : Nat) (tg : List (List UInt8)) (b : List UInt8), (a.data.toList.drop i).length ≤ n → i ≤ a.size → tg.length ≤ i → b.length ≤ i → 2 * (a.data.toList.drop i).length + 10 ≤ k →
    assizeref24_Parse.l0 k a (tg.map toB) (numsB b) (i : Int) = some (outR tg b (prs (a.data.toList.drop i))) := by
  intro n
  induction n with
  | zero =>
    intro i k tg b hn hi _ _ hk
    have hlen : a.size ≤ i := by
      rw [List.length_drop, ← size_list] at hn
      omega
    have hnil : a.data.toList.drop i = [] := List.length_eq_zero_iff.1 (by omega)
    rw [hnil, prs_nil]
    cases k with
    | zero => omega
    | succ k =>
      unfold assizeref24_Parse.l0
      rw [if_neg (by omega), nums_str]
      simp [outR]
  | succ n ih =>
    intro i k tg b hn hi htg hb hk
    cases k with
    | zero => omega
    | succ k =>
      cases hd : a.data.toList.drop i with
      | nil =>
        have hlen : a.size ≤ i := by
          have := congrArg List.length hd
          rw [List.length_drop, ← size_list] at this
          simp only [List.length_nil] at this
          omega
        unfold assizeref24_Parse.l0
        rw [prs_nil, if_neg (by omega), nums_str]
        simp [outR]
      | cons c r =>
        obtain ⟨hbt, hlt⟩ := bt_nat a i c r hd
        have hd1 : a.data.toList.drop (i + 1) = r := by rw [← List.drop_drop, hd]; rfl
        rw [hd] at hn hk
        simp only [List.length_cons] at hn hk
        unfold assizeref24_Parse.l0
        rw [if_pos (by omega), if_pos (by omega), hbt]
        by_cases h60 : c = 60
        · subst h60
          rw [if_pos (by rfl), w64 _ (by omega) (by omega)]
          have h := scan a ha tg b i htg r [] k (by rw [hd1]; rfl) (by simp) (by omega) (by simp only [List.length_nil]; omega) (fun s r' k' hq hs hk' => by
            rw [List.nil_append]
            have e1 : a.data.toList.drop (i + 1 + s.length + 1) = r' := by
              rw [← List.drop_drop, ← List.drop_drop, hd1, hq, List.drop_left' rfl]
              rfl
            have hr' : r'.length + s.length + 1 = r.length := by rw [hq]; simp only [List.length_append, List.length_cons]; omega
            have hrl : r.length = a.size - (i + 1) := by rw [← hd1, List.length_drop, ← size_list]
            have h := ih (i + 1 + s.length + 1) k' (tg ++ [s]) b (by rw [e1]; omega) (by omega) (by rw [List.length_append]; simp only [List.length_cons, List.length_nil]; omega) (by omega) (by rw [e1]; exact hk')
            rw [e1] at h
            exact h)
          exact h
        · have hc60 : ¬ (c.toNat : Int) = 60 := fun e => h60 (UInt8.toNat_inj.1 (by show c.toNat = 60; omega))
          rw [if_neg hc60]
          by_cases h62 : c = 62
          · subst h62
            rw [if_pos (by rfl), prs_gt]
            rfl
          · have hc62 : ¬ (c.toNat : Int) = 62 := fun e => h62 (UInt8.toNat_inj.1 (by show c.toNat = 62; omega))
            rw [if_neg hc62]
            by_cases h38 : c = 38
            · subst h38
              rw [if_pos (by rfl)]
              have he := escaped_loop a i (by omega) ha 5 k 0 rfl (by omega) (by omega)
              rw [hd] at he
              unfold assizeref24_escaped.f
              rw [show (0 : Int) = ((0 : Nat) : Int) from rfl, he, Option.bind_some]
              cases hu : unesc (38 :: r) 0 with
              | none =>
                rw [prs_noesc r hu]
                simp only []
                rw [if_pos (by rfl)]
                rfl
              | some m =>
                have hv := val_len m
                obtain ⟨hm5, hml⟩ := unesc_len (38 :: r) 5 0 m rfl hu
                simp only [List.length_cons] at hml
                have hrl : r.length = a.size - (i + 1) := by rw [← hd1, List.length_drop, ← size_list]
                simp only []
                rw [if_neg (by omega), if_pos (by rw [numsB_len]; omega), w64 _ (by omega) (by omega), numsB_snoc, prs_esc r hu]
                have e1 : a.data.toList.drop (i + (Pg.valOf m).length) = (38 :: r).drop (Pg.valOf m).length := by rw [← List.drop_drop, hd]
                have e2 : (i : Int) + ((Pg.valOf m).length : Int) = ((i + (Pg.valOf m).length : Nat) : Int) := by omega
                have hdl : ((38 :: r).drop (Pg.valOf m).length).length = r.length + 1 - (Pg.valOf m).length := by rw [List.length_drop]; rfl
                have h := ih (i + (Pg.valOf m).length) k tg (b ++ [Pg.keyOf m]) (by rw [e1, hdl]; omega) (by omega) (by omega) (by rw [List.length_append]; simp only [List.length_cons, List.length_nil]; omega) (by rw [e1, hdl]; omega)
                rw [e2, h, e1]
                cases prs ((38 :: r).drop (Pg.valOf m).length) <;> simp [outR]
            · have hc38 : ¬ (c.toNat : Int) = 38 := fun e => h38 (UInt8.toNat_inj.1 (by show c.toNat = 38; omega))
              have hcn : chs3.contains c = false := by simp [chs3, h60, h62, h38]
              rw [if_neg hc38, if_pos (by rw [numsB_len]; omega), w64 _ (by omega) (by omega), numsB_snoc, prs_one c r hcn]
              have hrl : r.length = a.size - (i + 1) := by rw [← hd1, List.length_drop, ← size_list]
              have h := ih (i + 1) k tg (b ++ [c]) (by rw [hd1]; omega) (by omega) (by omega) (by rw [List.length_append]; simp only [List.length_cons, List.length_nil]; omega) (by rw [hd1]; omega)
              rw [show (i : Int) + 1 = ((i + 1 : Nat) : Int) by omega, h, hd1]
              cases prs r <;> simp [outR]
theorem parse_pure (a : ByteArray) (ha : a.size ≤ 1000000000000) (k : Nat) (hk : 2 * a.size + 10 ≤ k) : assizeref24_Parse.f k a = some (outR [] [] (prs a.data.toList)) := by
  unfold assizeref24_Parse.f
  have h := parse_loop a ha a.size 0 k [] [] (by rw [List.drop_zero, ← size_list]; exact Nat.le_refl _) (by omega) (by simp) (by simp) (by rw [List.drop_zero, ← size_list]; exact hk)
  rw [List.drop_zero] at h
  exact h
end Go.Proofs.YtllgcpoljdjjnaaGreat.PS
