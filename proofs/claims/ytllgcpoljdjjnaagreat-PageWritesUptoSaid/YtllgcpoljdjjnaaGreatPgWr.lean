/- The law PageWrites, plainly. -/
import Derived.Test.YtllgcpoljdjjnaaGreatPVx1
import Derived.Test.YtllgcpoljdjjnaaGreatPgPlain
set_option linter.unusedVariables false
set_option linter.unusedSimpArgs false
namespace Go.Proofs.YtllgcpoljdjjnaaGreat.PV
open Go.RowKit Go.Proofs.YtllgcpoljdjjnaaGreatW.PrintWords Go.Proofs.YtllgcpoljdjjnaaGreatW.PrintLast Go.Proofs.YtllgcpoljdjjnaaGreatW.PrintMore
open Go.Proofs.YtllgcpoljdjjnaaGreat.Pg

theorem w64 (n : Int) (h0 : 0 ≤ n) (h1 : n < 9223372036854775808) : wrap64 n = n := by unfold wrap64; omega
theorem toL (a : ByteArray) : a.toList = a.data.toList := Lib.toList_data a
theorem toL_toB (l : List UInt8) : (toB l).toList = l := by rw [toL]; rfl
theorem size_toB (l : List UInt8) : (toB l).size = l.length := by simp [toB, ByteArray.size]
theorem same_loop (l : List ByteArray) (hl : l.length < 4611686018427387904) : ∀ (n k i : Nat), n = l.length - i → i ≤ l.length → n < k → assizeref24_SameTexts.l0 k l l (i : Int) = some true
  | 0, k + 1, i, hn, hi, _ => by
    unfold assizeref24_SameTexts.l0
    rw [if_neg (by omega)]
  | n + 1, k + 1, i, hn, hi, hk => by
    unfold assizeref24_SameTexts.l0
    rw [if_pos (by omega), if_pos (by omega), if_pos (by omega), if_pos rfl, w64 _ (by omega) (by omega)]
    exact same_loop l hl n k (i + 1) (by omega) (by omega) (by omega)
theorem same_pure (l : List ByteArray) (hl : l.length < 4611686018427387904) (k : Nat) (hk : l.length < k) : assizeref24_SameTexts.f k l l = some true := by
  unfold assizeref24_SameTexts.f
  rw [if_pos rfl]
  exact same_loop l hl l.length k 0 (by omega) (by omega) hk

theorem tags_f (k : Nat) (a : ByteArray) (ha : a.size < 4294967281) : page_Tags.f k a = some ((tagsR [] (prs a.data.toList)).1.map toB, (tagsR [] (prs a.data.toList)).2) := by
  unfold page_Tags.f
  rw [decide_eq_true ha, tagsOf_eq]
  rfl
theorem words_f (k : Nat) (a : ByteArray) (ha : a.size < 4294967281) : page_Words.f k a = some (toB (wordsR (prs a.data.toList)).1, (wordsR (prs a.data.toList)).2) := by
  unfold page_Words.f
  obtain ⟨h1, h2⟩ := wordsOf_eq a.data.toList
  rw [decide_eq_true ha, h2, h1]
  rfl
theorem val_prs (i : Nat) (hi : i < 5) : prs (Pg.valOf i) = some ([], [Pg.keyOf i]) := by
  have hu : unesc (Pg.valOf i) 0 = some i := unesc_to _ i hi (List.isPrefixOf_iff_prefix.2 (List.prefix_refl _)) i 0 rfl (Nat.zero_le _) (fun m _ hm => by
    cases hq : (Pg.valOf m).isPrefixOf (Pg.valOf i) with
    | false => rfl
    | true => have := val_apart m (by omega) i hi hq; omega)
  have hd : (Pg.valOf i).drop (Pg.valOf i).length = [] := List.drop_length
  obtain ⟨r, hr⟩ : ∃ r, Pg.valOf i = 38 :: r := by
    match i, hi with
    | 0, _ => exact ⟨_, rfl⟩
    | 1, _ => exact ⟨_, rfl⟩
    | 2, _ => exact ⟨_, rfl⟩
    | 3, _ => exact ⟨_, rfl⟩
    | 4, _ => exact ⟨_, rfl⟩
  rw [hr] at hu hd ⊢
  rw [prs_esc r hu, hr, hd, prs_nil]
  rfl
theorem alive_pure (k : Nat) : assizelaw24_alive.f k = some true := by
  have hw : prs [97, 60, 98, 62, 99, 38, 108, 116, 59] = some ([[98]], [97, 99, 60]) := by
    have h4 : prs [38, 108, 116, 59] = some ([], [60]) := val_prs 1 (by decide)
    rw [prs_one 97 _ (by decide), show ([60, 98, 62, 99, 38, 108, 116, 59] : List UInt8) = 60 :: ([98] ++ 62 :: [99, 38, 108, 116, 59]) from rfl, prs_tag [98] _ (by decide), prs_one 99 _ (by decide), h4]
    rfl
  have ht : prs [97, 60, 98, 62, 99] = some ([[98]], [97, 99]) := by
    rw [prs_one 97 _ (by decide), show ([60, 98, 62, 99] : List UInt8) = 60 :: ([98] ++ 62 :: [99]) from rfl, prs_tag [98] _ (by decide), prs_one 99 _ (by decide), prs_nil]
    rfl
  have e1 : page_Words.f k (⟨#[97, 60, 98, 62, 99, 38, 108, 116, 59]⟩ : ByteArray) = some (toB [97, 99, 60], 0) := by
    rw [words_f k _ (by decide)]
    show some (toB (wordsR (prs [97, 60, 98, 62, 99, 38, 108, 116, 59])).1, (wordsR (prs [97, 60, 98, 62, 99, 38, 108, 116, 59])).2) = _
    rw [hw]
    rfl
  have e2 : page_Tags.f k (⟨#[97, 60, 98, 62, 99]⟩ : ByteArray) = some ([toB [98]], 0) := by
    rw [tags_f k _ (by decide)]
    show some ((tagsR [] (prs [97, 60, 98, 62, 99])).1.map toB, (tagsR [] (prs [97, 60, 98, 62, 99])).2) = _
    rw [ht]
    rfl
  have e3 : page_Escape.f k (⟨#[60]⟩ : ByteArray) = some (toB [38, 108, 116, 59]) := by
    unfold page_Escape.f
    rw [decide_eq_true (by decide)]
    rfl
  have e4 : page_Page.f k (⟨#[]⟩ : ByteArray) [] = some (toB (pageL [] [])) := by
    unfold page_Page.f
    rw [show pageOk (⟨#[]⟩ : ByteArray).data.toList (lists []) = true from by decide +kernel]
    rfl
  unfold assizelaw24_alive.f
  rw [e1, Option.bind_some, e2, Option.bind_some, e3, Option.bind_some, e4, Option.bind_some, toL_toB, toL_toB, size_toB]
  simp only [if_true]
  rw [if_pos (by rfl), if_pos (by decide)]
  rw [show (rdOf ByteArray.empty [toB [98]] 0) = toB [98] from rfl, toL_toB, if_pos rfl]
  decide +kernel

def tot (ls : List (List UInt8)) : Nat := (ls.map List.length).sum
theorem lis_len : ∀ ls : List (List UInt8), (lisOf ls).length ≤ 6 * tot ls + 9 * ls.length
  | [] => by simp [lisOf]
  | l :: r => by
    have e : lisOf (l :: r) = tagged nLi (escL l) ++ lisOf r := rfl
    have ih := lis_len r
    have := (escL_len l).2
    rw [e, List.length_append, tagged_len]
    simp only [tot, List.map_cons, List.sum_cons, List.length_cons] at ih ⊢
    have h2 : nLi.length = 2 := rfl
    omega
theorem page_len (t : List UInt8) (ls : List (List UInt8)) : (pageL t ls).length ≤ 200 + 6 * t.length + 6 * tot ls + 9 * ls.length := by
  have h1 := lis_len ls
  have h2 := (escL_len t).2
  unfold pageL
  simp only [List.length_append, tagged_len, List.length_cons, List.length_nil]
  have e1 : nHtml.length = 4 := rfl
  have e2 : nHead.length = 4 := rfl
  have e3 : nTitle.length = 5 := rfl
  have e4 : nBody.length = 4 := rfl
  have e5 : nOl.length = 2 := rfl
  omega
theorem tot_mem (ls : List (List UInt8)) (l : List UInt8) (h : l ∈ ls) : l.length ≤ tot ls := by
  induction ls with
  | nil => cases h
  | cons x r ih =>
    simp only [tot, List.map_cons, List.sum_cons] at ih ⊢
    rcases List.mem_cons.1 h with rfl | h
    · omega
    · have := ih h
      omega
theorem page_f (k : Nat) (a : ByteArray) (l1 : List ByteArray) (ha : a.size ≤ 1048576) (hn : l1.length ≤ 1048576) (ht : tot (lists l1) ≤ 1048576) : page_Page.f k a l1 = some (toB (pageL a.data.toList (lists l1))) := by
  unfold page_Page.f
  have hp := page_len a.data.toList (lists l1)
  have hl : (lists l1).length = l1.length := by simp [lists]
  rw [hl, ← size_list] at hp
  have hok : pageOk a.data.toList (lists l1) = true := by
    unfold pageOk
    rw [decide_eq_true (show a.data.toList.length ≤ 1000000000000 by rw [← size_list]; omega), decide_eq_true (show (pageL a.data.toList (lists l1)).length ≤ 140737488355328 by omega), Bool.true_and, Bool.and_true, List.all_eq_true]
    intro l hm
    have := tot_mem _ l hm
    exact decide_eq_true (by omega)
  rw [hok]
  rfl
theorem PageWrites_pure (a : ByteArray) (l : List ByteArray) (ha : a.size ≤ 1048576) (hl : l.length ≤ 1048576) (ht : tot (lists l) ≤ 1048576) (k : Nat) (hk : 90000000 ≤ k) : assizelaw24_PageWrites.f k a l = some true := by
  have hll : (lists l).length = l.length := by simp [lists]
  have hpl := page_len a.data.toList (lists l)
  rw [hll, ← size_list] at hpl
  have e1 : page_Escape.f k a = some (toB (escL a.data.toList)) := by
    unfold page_Escape.f
    rw [decide_eq_true (by omega)]
    rfl
  have e2 : assizeref24_Escape.f k a = some (toB (escL a.data.toList)) := by
    unfold assizeref24_Escape.f
    rw [decide_eq_true (by omega)]
    rfl
  have e3 : assizeref24_Page.f k a l = some (toB (pageL a.data.toList (lists l))) := by
    unfold assizeref24_Page.f
    have hok : refOk a.data.toList (lists l) = true := by
      unfold refOk
      rw [decide_eq_true (show a.data.toList.length ≤ 2000000 by rw [← size_list]; omega), decide_eq_true (show (pageL a.data.toList (lists l)).length ≤ 1000000000000 by omega), Bool.true_and, Bool.and_true, List.all_eq_true]
      intro x hm
      have := tot_mem _ x hm
      exact decide_eq_true (by omega)
    rw [hok]
    rfl
  unfold assizelaw24_PageWrites.f
  rw [alive_pure, Option.bind_some, if_pos rfl, Option.bind_some, if_pos (by simp only [List.length_nil]; omega), Option.bind_some, e1, Option.bind_some, e2, Option.bind_some, if_pos rfl, List.nil_append, page_f k a l ha hl ht, Option.bind_some, e3, Option.bind_some, if_pos rfl, same_pure l (by omega) k (by omega)]
  rfl
end Go.Proofs.YtllgcpoljdjjnaaGreat.PV
