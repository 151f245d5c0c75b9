/- The laws PageReads, PageBehind and PageNothing, plainly. -/
import Derived.Test.YtllgcpoljdjjnaaGreatPgRef
import Derived.Test.YtllgcpoljdjjnaaGreatPSx3
set_option linter.unusedVariables false
set_option linter.unusedSimpArgs false
namespace Go.Proofs.YtllgcpoljdjjnaaGreat.PS
open Go.RowKit Go.Proofs.YtllgcpoljdjjnaaGreatW.PrintWords Go.Proofs.YtllgcpoljdjjnaaGreatW.PrintLast Go.Proofs.YtllgcpoljdjjnaaGreatW.PrintMore
open Go.Proofs.YtllgcpoljdjjnaaGreat.Pg

theorem parse_len : ∀ (k : Nat) (l : List UInt8) (x : List (List UInt8) × List UInt8), parse k l = some x → x.1.length ≤ k ∧ x.2.length ≤ k
  | 0, l, x, h => by cases h; simp
  | k + 1, [], x, h => by cases h; simp
  | k + 1, c :: r, x, h => by
    simp only [parse] at h
    have ih := parse_len k
    have fin : ∀ (o : Option (List (List UInt8) × List UInt8)) (f : List (List UInt8) × List UInt8 → List (List UInt8) × List UInt8), (∀ y, o = some y → y.1.length ≤ k ∧ y.2.length ≤ k) → (∀ y, (f y).1.length ≤ y.1.length + 1 ∧ (f y).2.length ≤ y.2.length + 1) → o.map f = some x → x.1.length ≤ k + 1 ∧ x.2.length ≤ k + 1 := by
      intro o f ho hf hx
      cases o with
      | none => cases hx
      | some y =>
        cases hx
        have h1 := ho y rfl
        have h2 := hf y
        omega
    split at h
    · split at h
      · cases h
      · exact fin _ _ (fun y hy => ih _ y hy) (fun y => by simp) h
    · split at h
      · cases h
      · split at h
        · split at h
          · cases h
          · exact fin _ _ (fun y hy => ih _ y hy) (fun y => by simp) h
        · exact fin _ _ (fun y hy => ih _ y hy) (fun y => by simp) h
theorem prs_len {l : List UInt8} {x : List (List UInt8) × List UInt8} (h : prs l = some x) : x.1.length ≤ l.length ∧ x.2.length ≤ l.length := parse_len _ _ _ h

theorem tags_f (k : Nat) (a : ByteArray) (ha : a.size < 4294967281) : page_Tags.f k a = some ((tagsR [] (prs a.data.toList)).1.map toB, (tagsR [] (prs a.data.toList)).2) := by
  unfold page_Tags.f
  rw [decide_eq_true ha, tagsOf_eq]
  rfl
theorem words_f (k : Nat) (a : ByteArray) (ha : a.size < 4294967281) : page_Words.f k a = some (toB (wordsR (prs a.data.toList)).1, (wordsR (prs a.data.toList)).2) := by
  unfold page_Words.f
  obtain ⟨h1, h2⟩ := wordsOf_eq a.data.toList
  rw [decide_eq_true ha, h2, h1]
  rfl
theorem val_prs (i : Nat) (hi : i < 5) : prs (Pg.valOf i) = some ([], [Pg.keyOf i]) := by
  have hu : unesc (Pg.valOf i) 0 = some i := unesc_to _ i hi (List.isPrefixOf_iff_prefix.2 (List.prefix_refl _)) i 0 rfl (Nat.zero_le _) (fun m _ hm => by
    cases hq : (Pg.valOf m).isPrefixOf (Pg.valOf i) with
    | false => rfl
    | true => have := val_apart m (by omega) i hi hq; omega)
  have hd : (Pg.valOf i).drop (Pg.valOf i).length = [] := List.drop_length
  obtain ⟨r, hr⟩ : ∃ r, Pg.valOf i = 38 :: r := by
    match i, hi with
    | 0, _ => exact ⟨_, rfl⟩
    | 1, _ => exact ⟨_, rfl⟩
    | 2, _ => exact ⟨_, rfl⟩
    | 3, _ => exact ⟨_, rfl⟩
    | 4, _ => exact ⟨_, rfl⟩
  rw [hr] at hu hd ⊢
  rw [prs_esc r hu, hr, hd, prs_nil]
  rfl
theorem alive_pure (k : Nat) : assizelaw24_alive.f k = some true := by
  have hw : prs [97, 60, 98, 62, 99, 38, 108, 116, 59] = some ([[98]], [97, 99, 60]) := by
    have h4 : prs [38, 108, 116, 59] = some ([], [60]) := val_prs 1 (by decide)
    rw [prs_one 97 _ (by decide), show ([60, 98, 62, 99, 38, 108, 116, 59] : List UInt8) = 60 :: ([98] ++ 62 :: [99, 38, 108, 116, 59]) from rfl, prs_tag [98] _ (by decide), prs_one 99 _ (by decide), h4]
    rfl
  have ht : prs [97, 60, 98, 62, 99] = some ([[98]], [97, 99]) := by
    rw [prs_one 97 _ (by decide), show ([60, 98, 62, 99] : List UInt8) = 60 :: ([98] ++ 62 :: [99]) from rfl, prs_tag [98] _ (by decide), prs_one 99 _ (by decide), prs_nil]
    rfl
  have e1 : page_Words.f k (⟨#[97, 60, 98, 62, 99, 38, 108, 116, 59]⟩ : ByteArray) = some (toB [97, 99, 60], 0) := by
    rw [words_f k _ (by decide)]
    show some (toB (wordsR (prs [97, 60, 98, 62, 99, 38, 108, 116, 59])).1, (wordsR (prs [97, 60, 98, 62, 99, 38, 108, 116, 59])).2) = _
    rw [hw]
    rfl
  have e2 : page_Tags.f k (⟨#[97, 60, 98, 62, 99]⟩ : ByteArray) = some ([toB [98]], 0) := by
    rw [tags_f k _ (by decide)]
    show some ((tagsR [] (prs [97, 60, 98, 62, 99])).1.map toB, (tagsR [] (prs [97, 60, 98, 62, 99])).2) = _
    rw [ht]
    rfl
  have e3 : page_Escape.f k (⟨#[60]⟩ : ByteArray) = some (toB [38, 108, 116, 59]) := by
    unfold page_Escape.f
    rw [decide_eq_true (by decide)]
    rfl
  have e4 : page_Page.f k (⟨#[]⟩ : ByteArray) [] = some (toB (pageL [] [])) := by
    unfold page_Page.f
    rw [show pageOk (⟨#[]⟩ : ByteArray).data.toList (lists []) = true from by decide +kernel]
    rfl
  unfold assizelaw24_alive.f
  rw [e1, Option.bind_some, e2, Option.bind_some, e3, Option.bind_some, e4, Option.bind_some, toL_toB, toL_toB, size_toB]
  simp only [if_true]
  rw [if_pos (by rfl), if_pos (by decide)]
  rw [show (rdOf ByteArray.empty [toB [98]] 0) = toB [98] from rfl, toL_toB, if_pos rfl]
  decide +kernel

theorem PageReads_pure (a : ByteArray) (ha : a.size ≤ 1048576) (k : Nat) (hk : 90000000 ≤ k) : assizelaw24_PageReads.f k a = some true := by
  unfold assizelaw24_PageReads.f
  rw [alive_pure, Option.bind_some, if_pos rfl, tags_f _ a (by omega), Option.bind_some, words_f _ a (by omega), Option.bind_some, parse_pure a (by omega) _ (by omega), Option.bind_some]
  cases hR : prs a.data.toList with
  | none =>
    simp only [tagsR, wordsR, outR, if_true, List.map_nil]
    rw [same_pure [] (by decide) _ (by simp only [List.length_nil]; omega), Option.bind_some, if_pos rfl, show (⟨#[]⟩ : ByteArray) = toB [] from rfl, beq_self_eq_true]
  | some x =>
    have hl := prs_len hR
    rw [← size_list] at hl
    simp only [tagsR, wordsR, outR, List.nil_append, if_true]
    rw [same_pure _ (by rw [List.length_map]; omega) _ (by rw [List.length_map]; omega), Option.bind_some, if_pos rfl]
    simp
theorem app_list (s t : ByteArray) : (s ++ t).data.toList = s.data.toList ++ t.data.toList := by simp [ByteArray.data_append]
theorem PageBehind_pure (s t : ByteArray) (hs : s.size + t.size ≤ 1048576) (k : Nat) (hk : 90000000 ≤ k) : assizelaw24_PageBehind.f (k + 1) s t = some true := by
  unfold assizelaw24_PageBehind.f
  rw [alive_pure, Option.bind_some, if_pos rfl, tags_f _ s (by omega), Option.bind_some, tags_f _ t (by omega), Option.bind_some, words_f _ s (by omega), Option.bind_some, words_f _ t (by omega), Option.bind_some]
  have hst : (s ++ t).size = s.size + t.size := ByteArray.size_append
  cases hS : prs s.data.toList with
  | none =>
    simp only [tagsR, wordsR, List.map_nil]
    rw [if_neg (by decide)]
    rw [assizelaw24_PageBehind.j0]
    rw [if_pos rfl, if_neg (by decide), if_pos (by rfl), if_pos (toL_toB [])]
  | some x =>
    have hlx := prs_len hS
    rw [← size_list] at hlx
    cases hT : prs t.data.toList with
    | none =>
      simp only [tagsR, wordsR, List.map_nil, if_true]
      rw [assizelaw24_PageBehind.j0]
      rw [if_pos (by decide), if_pos rfl, if_neg (by decide), if_pos (by rfl), toL_toB]
      rfl
    | some y =>
      have hly := prs_len hT
      rw [← size_list] at hly
      have hA := prs_append _ s.data.toList t.data.toList x (Nat.le_refl _) hS
      rw [hT] at hA
      simp only [Option.map_some] at hA
      have hal := prs_len hA
      simp only [List.length_append, ← size_list] at hal
      simp only [tagsR, wordsR, List.nil_append, if_true]
      rw [assizelaw24_PageBehind.j0]
      rw [if_neg (by decide), if_pos (by omega), tags_f _ _ (by omega), Option.bind_some, words_f _ _ (by omega), Option.bind_some, app_list, hA]
      simp only [tagsR, wordsR, List.nil_append, if_true]
      rw [size_toB, size_toB, if_pos (by omega)]
      have e1 : (toB (x.2 ++ y.2)).toList = (toB x.2 ++ toB y.2).toList := by rw [toL, toL, app_list]; rfl
      refine (if_pos e1).trans ?_
      rw [Option.bind_some]
      simp only [List.nil_append, List.length_nil, Nat.zero_add, List.length_map]
      rw [if_pos (by omega), Option.bind_some, if_pos (by rw [List.length_map]; omega), ← List.map_append, same_pure _ (by rw [List.length_map, List.length_append]; omega) _ (by rw [List.length_map, List.length_append]; omega)]
      rfl

/-! a page -/
theorem escB_prs (c : UInt8) : prs (escB c) = some ([], [c]) := by
  unfold escB
  cases hr : repOf 0 c.toNat with
  | none =>
    have hk : keyB c = false := by unfold keyB; rw [hr]; rfl
    rw [keyB_eq] at hk
    simp only [Bool.or_eq_false_iff, beq_eq_false_iff_ne] at hk
    obtain ⟨⟨⟨⟨h1, h2⟩, h3⟩, _⟩, _⟩ := hk
    show prs [c] = _
    rw [prs_one c [] (by simp [chs3, h1, h2, h3]), prs_nil]
    rfl
  | some l =>
    unfold repOf at hr
    rw [Option.map_eq_some_iff] at hr
    obtain ⟨i, hi, rfl⟩ := hr
    have hm := List.mem_of_mem_head? hi
    rw [List.mem_filter, List.mem_range] at hm
    have hkey : Pg.keyOf i = c := by
      have := hm.2
      simp only [Nat.zero_le, decide_true, Bool.true_and, beq_iff_eq] at this
      exact UInt8.toNat_inj.1 this
    show prs (Pg.valOf i) = _
    rw [val_prs i hm.1, hkey]
theorem escL_prs : ∀ l : List UInt8, prs (escL l) = some ([], l)
  | [] => rfl
  | c :: r => by
    have e : escL (c :: r) = escB c ++ escL r := rfl
    rw [e, prs_append _ _ _ _ (Nat.le_refl _) (escB_prs c), escL_prs r]
    rfl
theorem tagged_prs (nm x : List UInt8) (hn : ∀ b, b ∈ nm → chs2.contains b = false) {y : List (List UInt8) × List UInt8} (hx : prs x = some y) : prs (tagged nm x) = some (nm :: (y.1 ++ [47 :: nm]), y.2) := by
  have h1 : prs ([60] ++ nm ++ [62]) = some ([nm], []) := by
    have h := prs_tag nm [] hn
    rw [prs_nil] at h
    simpa using h
  have h2 : prs ([60, 47] ++ nm ++ [62]) = some ([47 :: nm], []) := by
    have h := prs_tag (47 :: nm) [] (fun b hb => by
      rcases List.mem_cons.1 hb with rfl | hb
      · decide
      · exact hn b hb)
    rw [prs_nil] at h
    simpa using h
  unfold tagged
  rw [List.append_assoc, prs_append _ _ _ _ (Nat.le_refl _) h1, prs_append _ _ _ _ (Nat.le_refl _) hx, h2]
  simp
def liTags : Nat → List (List UInt8)
  | 0 => []
  | n + 1 => nLi :: (47 :: nLi) :: liTags n
theorem liTags_len : ∀ n, (liTags n).length = 2 * n
  | 0 => rfl
  | n + 1 => by simp only [liTags, List.length_cons, liTags_len n]; omega
theorem lis_prs : ∀ ls : List (List UInt8), prs (lisOf ls) = some (liTags ls.length, ls.flatten)
  | [] => rfl
  | l :: r => by
    have e : lisOf (l :: r) = tagged nLi (escL l) ++ lisOf r := rfl
    have h1 := tagged_prs nLi (escL l) (by decide) (escL_prs l)
    rw [e, prs_append _ _ _ _ (Nat.le_refl _) h1, lis_prs r]
    simp [liTags]
def pageTags (n : Nat) : List (List UInt8) :=
  [33, 68, 79, 67, 84, 89, 80, 69, 32, 104, 116, 109, 108] :: nHtml :: ((nHead :: ((nTitle :: ([] ++ [47 :: nTitle])) ++ [47 :: nHead]) ++ (nBody :: ((nOl :: (liTags n ++ [47 :: nOl])) ++ [47 :: nBody]))) ++ [47 :: nHtml])
theorem pageTags_len (n : Nat) : (pageTags n).length = 11 + 2 * n := by
  simp only [pageTags, List.length_cons, List.length_append, List.length_nil, liTags_len]
  omega
theorem page_prs (t : List UInt8) (ls : List (List UInt8)) : prs (pageL t ls) = some (pageTags ls.length, [10] ++ (t ++ ls.flatten) ++ [10]) := by
  have h0 : prs [60, 33, 68, 79, 67, 84, 89, 80, 69, 32, 104, 116, 109, 108, 62, 10] = some ([[33, 68, 79, 67, 84, 89, 80, 69, 32, 104, 116, 109, 108]], [10]) := by
    have h := prs_tag [33, 68, 79, 67, 84, 89, 80, 69, 32, 104, 116, 109, 108] [10] (by decide)
    rw [prs_one 10 [] (by decide), prs_nil] at h
    exact h
  have h1 := tagged_prs nHead _ (by decide) (tagged_prs nTitle _ (by decide) (escL_prs t))
  have h2 := tagged_prs nBody _ (by decide) (tagged_prs nOl _ (by decide) (lis_prs ls))
  have h3 := prs_append _ _ (tagged nBody (tagged nOl (lisOf ls))) _ (Nat.le_refl _) h1
  rw [h2, Option.map_some] at h3
  have h4 := tagged_prs nHtml _ (by decide) h3
  have h5 : prs [10] = some ([], [10]) := by rw [prs_one 10 [] (by decide), prs_nil]; rfl
  unfold pageL
  rw [List.append_assoc, prs_append _ _ _ _ (Nat.le_refl _) h0, prs_append _ _ _ _ (Nat.le_refl _) h4, h5]
  simp [pageTags]
def tot (ls : List (List UInt8)) : Nat := (ls.map List.length).sum
theorem lis_len : ∀ ls : List (List UInt8), (lisOf ls).length ≤ 6 * tot ls + 9 * ls.length
  | [] => by simp [lisOf]
  | l :: r => by
    have e : lisOf (l :: r) = tagged nLi (escL l) ++ lisOf r := rfl
    have ih := lis_len r
    have := (escL_len l).2
    rw [e, List.length_append, tagged_len]
    simp only [tot, List.map_cons, List.sum_cons, List.length_cons] at ih ⊢
    have h2 : nLi.length = 2 := rfl
    omega
theorem page_len (t : List UInt8) (ls : List (List UInt8)) : (pageL t ls).length ≤ 200 + 6 * t.length + 6 * tot ls + 9 * ls.length := by
  have h1 := lis_len ls
  have h2 := (escL_len t).2
  unfold pageL
  simp only [List.length_append, tagged_len, List.length_cons, List.length_nil]
  have e1 : nHtml.length = 4 := rfl
  have e2 : nHead.length = 4 := rfl
  have e3 : nTitle.length = 5 := rfl
  have e4 : nBody.length = 4 := rfl
  have e5 : nOl.length = 2 := rfl
  omega
theorem tot_mem (ls : List (List UInt8)) (l : List UInt8) (h : l ∈ ls) : l.length ≤ tot ls := by
  induction ls with
  | nil => cases h
  | cons x r ih =>
    simp only [tot, List.map_cons, List.sum_cons] at ih ⊢
    rcases List.mem_cons.1 h with rfl | h
    · omega
    · have := ih h
      omega
theorem page_f (k : Nat) (a : ByteArray) (l1 : List ByteArray) (ha : a.size ≤ 1048576) (hn : l1.length ≤ 1048576) (ht : tot (lists l1) ≤ 1048576) : page_Page.f k a l1 = some (toB (pageL a.data.toList (lists l1))) := by
  unfold page_Page.f
  have hp := page_len a.data.toList (lists l1)
  have hl : (lists l1).length = l1.length := by simp [lists]
  rw [hl, ← size_list] at hp
  have hok : pageOk a.data.toList (lists l1) = true := by
    unfold pageOk
    rw [decide_eq_true (show a.data.toList.length ≤ 1000000000000 by rw [← size_list]; omega), decide_eq_true (show (pageL a.data.toList (lists l1)).length ≤ 140737488355328 by omega), Bool.true_and, Bool.and_true, List.all_eq_true]
    intro l hm
    have := tot_mem _ l hm
    exact decide_eq_true (by omega)
  rw [hok]
  rfl
theorem flat_len (ls : List (List UInt8)) : ls.flatten.length = tot ls := by
  simp [tot, List.length_flatten]
theorem nothing_loop (l1 : List ByteArray) (hl : l1.length ≤ 1048576) (ht : tot (lists l1) ≤ 1048576) (t : List UInt8) (hts : t.length ≤ 1048577) (T : List (List UInt8)) (hT : T.length = 11 + 2 * l1.length) (W : List UInt8) (hW : W = t ++ (lists l1).flatten ++ [10]) : ∀ (n k i : Nat), n = l1.length - i → i ≤ l1.length → n + 40000000 ≤ k →
    assizelaw24_PageNothing.l0 k l1 0 (toB W) 0 (T.map toB) (T.map toB) 0 (toB (t ++ ((lists l1).take i).flatten)) (i : Int) = some true := by
  intro n
  have hll : (lists l1).length = l1.length := by simp [lists]
  induction n with
  | zero =>
    intro k i hn hi hk
    obtain rfl : i = l1.length := by omega
    cases k with
    | zero => omega
    | succ k =>
      rw [assizelaw24_PageNothing.l0, if_neg (by omega), if_pos rfl, if_pos rfl, if_pos rfl, same_pure _ (by rw [List.length_map]; omega) _ (by rw [List.length_map]; omega), Option.bind_some, if_pos rfl, if_pos (by
        rw [List.length_map, hT, w64 (2 * (l1.length : Int)) (by omega) (by omega), w64 _ (by omega) (by omega)]
        omega), if_pos (by
        rw [size_toB, List.length_append, ← hll, List.take_of_length_le (Nat.le_refl _), flat_len]
        omega), toL_toB, toL, app_list, ← hll, List.take_of_length_le (Nat.le_refl _)]
      rw [hW]
      have e : (toB (t ++ (lists l1).flatten)).data.toList ++ (⟨#[10]⟩ : ByteArray).data.toList = t ++ (lists l1).flatten ++ [10] := rfl
      rw [e, beq_self_eq_true]
  | succ n ih =>
    intro k i hn hi hk
    have hlt : i < l1.length := by omega
    cases k with
    | zero => omega
    | succ k =>
      have hrd : rdOf ByteArray.empty l1 (i : Int) = toB (lists l1)[i] := by
        unfold rdOf
        simp [lists, hlt, toB]
      have hfl := flat_len ((lists l1).take i)
      have hle : tot ((lists l1).take i) + (lists l1)[i].length ≤ tot (lists l1) := by
        have h1 := congrArg tot (List.take_append_drop i (lists l1))
        have h2 : (lists l1).drop i = (lists l1)[i] :: (lists l1).drop (i + 1) := List.drop_eq_getElem_cons (by omega)
        rw [h2] at h1
        simp only [tot, List.map_append, List.sum_append, List.map_cons, List.sum_cons] at h1 ⊢
        omega
      have h := ih k (i + 1) (by omega) (by omega) (by omega)
      rw [assizelaw24_PageNothing.l0, if_pos (by omega), if_pos (by omega), hrd, if_pos (by rw [size_toB, size_toB, List.length_append]; omega), w64 _ (by omega) (by omega)]
      have e : toB (t ++ ((lists l1).take i).flatten) ++ toB (lists l1)[i] = toB (t ++ ((lists l1).take (i + 1)).flatten) := by
        rw [← toB_list (toB (t ++ ((lists l1).take i).flatten) ++ toB (lists l1)[i]), app_list]
        congr 1
        rw [List.take_succ_eq_append_getElem (by omega), List.flatten_append]
        simp [toB]
      rw [e]
      exact h
theorem lists_rep (n : Nat) : lists (List.replicate n (⟨#[]⟩ : ByteArray)) = List.replicate n [] := by simp [lists]
theorem tot_rep (n : Nat) : tot (List.replicate n []) = 0 := by simp [tot]
theorem PageNothing_pure (a : ByteArray) (l1 : List ByteArray) (ha : a.size ≤ 1048576) (hl : l1.length ≤ 1048576) (ht : tot (lists l1) ≤ 1048576) (k : Nat) (hk : 90000000 ≤ k) : assizelaw24_PageNothing.f (k + 1) a l1 = some true := by
  have hll : (lists l1).length = l1.length := by simp [lists]
  have hes : (toB (escL a.data.toList)).size < 4294967281 := by
    have := (escL_len a.data.toList).2
    rw [size_toB]
    rw [← size_list] at this
    omega
  have he : page_Escape.f (k + 1) a = some (toB (escL a.data.toList)) := by
    unfold page_Escape.f
    rw [decide_eq_true (by omega)]
    rfl
  unfold assizelaw24_PageNothing.f
  rw [alive_pure, Option.bind_some, if_pos rfl, he, Option.bind_some, tags_f _ _ hes, Option.bind_some, words_f _ _ hes, Option.bind_some]
  rw [show (toB (escL a.data.toList)).data.toList = escL a.data.toList from rfl, escL_prs]
  simp only [tagsR, wordsR, List.append_nil, List.map_nil, if_true]
  rw [if_pos (by rfl)]
  have hne : ((toB a.data.toList).toList != a.toList) = false := by rw [toB_list]; simp
  rw [hne, assizelaw24_PageNothing.j0, if_neg (by decide)]
  have hpl := page_len a.data.toList (lists l1)
  rw [hll, ← size_list] at hpl
  have hp1 : (toB (pageL a.data.toList (lists l1))).size < 4294967281 := by rw [size_toB]; omega
  have hrl : (List.replicate (((l1.length : Int) : Int).toNat) (⟨#[]⟩ : ByteArray)).length = l1.length := by simp
  have hrn : ((l1.length : Int) : Int).toNat = l1.length := Int.toNat_natCast _
  rw [page_f k a l1 ha hl ht, Option.bind_some, tags_f _ _ hp1, Option.bind_some, if_pos (by omega), if_pos (by omega)]
  rw [hrn, page_f k _ _ (by decide) (by rw [List.length_replicate]; exact hl) (by rw [lists_rep, tot_rep]; omega), Option.bind_some, lists_rep]
  have hpl2 := page_len [] (List.replicate l1.length [])
  rw [tot_rep, List.length_replicate, List.length_nil] at hpl2
  have hp2 : (toB (pageL (⟨#[]⟩ : ByteArray).data.toList (List.replicate l1.length []))).size < 4294967281 := by
    rw [size_toB]
    show (pageL [] (List.replicate l1.length [])).length < _
    omega
  rw [tags_f _ _ hp2, Option.bind_some, words_f _ _ hp1, Option.bind_some, if_pos (by omega)]
  rw [show (toB (pageL a.data.toList (lists l1))).data.toList = pageL a.data.toList (lists l1) from rfl, page_prs, show (toB (pageL (⟨#[]⟩ : ByteArray).data.toList (List.replicate l1.length []))).data.toList = pageL [] (List.replicate l1.length []) from rfl, page_prs]
  simp only [tagsR, wordsR, List.nil_append, List.length_replicate, hll]
  have h := nothing_loop l1 hl ht ([10] ++ a.data.toList) (by rw [List.length_append, ← size_list]; simp only [List.length_cons, List.length_nil]; omega) (pageTags l1.length) (pageTags_len _) ([10] ++ a.data.toList ++ (lists l1).flatten ++ [10]) rfl l1.length k 0 (by omega) (by omega) (by omega)
  have e : toB ([10] ++ a.data.toList ++ ((lists l1).take 0).flatten) = (⟨#[10]⟩ : ByteArray) ++ a := by
    rw [← toB_list ((⟨#[10]⟩ : ByteArray) ++ a), app_list]
    congr 1
    simp
  rw [e] at h
  rw [← List.append_assoc] at *
  exact h
end Go.Proofs.YtllgcpoljdjjnaaGreat.PS
