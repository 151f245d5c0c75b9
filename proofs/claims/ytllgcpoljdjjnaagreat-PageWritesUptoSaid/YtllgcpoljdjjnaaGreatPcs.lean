/- page.pieces' iterator, whatever its yield keeps: the walk. -/
import Derived.Test.YtllgcpoljdjjnaaGreatUne
import Derived.Test.YtllgcpoljdjjnaaGreatAny
set_option linter.unusedVariables false
set_option linter.unusedSimpArgs false
namespace Go.Proofs.YtllgcpoljdjjnaaGreat.Pg
open Go.RowKit Go.Proofs.YtllgcpoljdjjnaaGreatW.PrintWords Go.Proofs.YtllgcpoljdjjnaaGreatW.PrintLast Go.Proofs.YtllgcpoljdjjnaaGreatW.PrintMore

def chs3 : List UInt8 := [60, 62, 38]
def chs2 : List UInt8 := [60, 62]
/-- The pieces that are yielded: whether a tag, the bytes, whether it could be read; the last number: the bytes used. -/
def pcs : Nat → List UInt8 → List (Bool × List UInt8 × Bool × Nat)
  | 0, _ => []
  | k + 1, l =>
    if l = [] then [] else
    if Lib.indexAny l chs3 < 0 then [(false, l, true, l.length)]
    else if 0 < Lib.indexAny l chs3 then (false, l.take (Lib.indexAny l chs3).toNat, true, (Lib.indexAny l chs3).toNat) :: pcs k (l.drop (Lib.indexAny l chs3).toNat)
    else if l.head? = some 60 then
      if Lib.indexAny (l.drop 1) chs2 < 0 ∨ (l.drop 1)[(Lib.indexAny (l.drop 1) chs2).toNat]? = some 60 then [(false, [], false, 1)]
      else (true, (l.drop 1).take (Lib.indexAny (l.drop 1) chs2).toNat, true, (Lib.indexAny (l.drop 1) chs2).toNat + 2) :: pcs k (l.drop ((Lib.indexAny (l.drop 1) chs2).toNat + 2))
    else match unesc l 0 with
      | some i => (false, [keyOf i], true, (valOf i).length) :: pcs k (l.drop (valOf i).length)
      | none => [(false, [], false, 1)]

/-- What a yield keeps. -/
structure Yld (fy : FuncId) (c1 c2 : Value) (σ : Type) (step : σ → Bool → List UInt8 → Bool → σ) (B bs L : Nat) (Inv : Nat → σ → World → Prop) : Prop where
  enters : ∀ args w, (callFunc fy args).run Tryz.prog w = .ok (.enter fy args) w
  call : ∀ c st tag piece ok w d, Inv c st w → piece.length ≤ d → 1 ≤ d → c + d ≤ L → (ok = false → tag = false ∧ piece = []) →
    Calls Tryz.prog fy #[.bool tag, .string ⟨piece.toArray⟩, .bool ok, c1, c2] w fun e w' => e = .returned (.bool ok) ∧ Inv (c + d) (step st tag piece ok) w' ∧ w'.heap[bs]? = w.heap[bs]? ∧ Below B w w'
  stable : ∀ c st w w', Inv c st w → (∀ k, k < w.heap.size → k ≠ bs → w'.heap[k]? = w.heap[k]?) → w.heap.size ≤ w'.heap.size → Inv c st w'
def run1 {σ : Type} (step : σ → Bool → List UInt8 → Bool → σ) (st : σ) (x : Bool × List UInt8 × Bool × Nat) : σ := step st x.1 x.2.1 x.2.2.1

theorem indexAny_at (cs : List UInt8) : ∀ l : List UInt8, Lib.indexAny l cs < 0 ∨ ∃ (k : Nat) (x : UInt8), Lib.indexAny l cs = (k : Int) ∧ l[k]? = some x ∧ cs.contains x = true ∧ k < l.length := by
  intro l
  induction l with
  | nil => exact .inl (by show (-1 : Int) < 0; decide)
  | cons b r ih =>
    unfold Lib.indexAny
    cases hb : cs.contains b with
    | true => exact .inr ⟨0, b, by simp, rfl, hb, by simp⟩
    | false =>
      rcases ih with h | ⟨k, x, h1, h2, h3, h4⟩
      · have := Lib.indexAny_ge cs r
        have e : Lib.indexAny r cs = -1 := by omega
        rw [e]
        exact .inl (by decide)
      · refine .inr ⟨k + 1, x, ?_, h2, h3, by simp; omega⟩
        rw [h1, if_neg (by decide), if_neg (by intro e; have := beq_iff_eq.1 e; omega)]
        push_cast
        rfl
theorem ext_take (l : List UInt8) (k : Nat) : (ByteArray.mk l.toArray).extract 0 k = ⟨(l.take k).toArray⟩ := by
  apply ByteArray.ext
  rw [ByteArray.data_extract]
  apply Array.ext'
  simp [Array.toList_extract, List.extract_eq_take_drop]
theorem ext_drop (l : List UInt8) (k : Nat) : (ByteArray.mk l.toArray).extract k (ByteArray.mk l.toArray).size = ⟨(l.drop k).toArray⟩ := by
  apply ByteArray.ext
  rw [ByteArray.data_extract]
  apply Array.ext'
  simp only [Array.toList_extract, List.extract_eq_take_drop, ByteArray.size, List.size_toArray]
  exact List.take_of_length_le (by simp)
theorem ext_drop' (l : List UInt8) (k : Nat) : (ByteArray.mk l.toArray).extract k l.length = ⟨(l.drop k).toArray⟩ := by
  have h := ext_drop l k
  rwa [show (ByteArray.mk l.toArray).size = l.length by simp [ByteArray.size]] at h
theorem ext_tail (x : UInt8) (r : List UInt8) : (ByteArray.mk (x :: r).toArray).extract 1 (r.length + 1) = ⟨r.toArray⟩ := ext_drop' (x :: r) 1
theorem ext_far (x : UInt8) (r : List UInt8) (e : Nat) : (ByteArray.mk (x :: r).toArray).extract (e + 2) (r.length + 1) = ⟨(r.drop (e + 1)).toArray⟩ := ext_drop' (x :: r) (e + 2)
theorem ext_mid (x : UInt8) (r : List UInt8) (e : Nat) : (ByteArray.mk (x :: r).toArray).extract 1 (e + 1) = ⟨(r.take e).toArray⟩ := by
  apply ByteArray.ext
  rw [ByteArray.data_extract]
  apply Array.ext'
  simp [Array.toList_extract, List.extract_eq_take_drop]
theorem pcs_neg (k : Nat) (l : List UInt8) (h : l ≠ []) (hn : Lib.indexAny l chs3 < 0) : pcs (k + 1) l = [(false, l, true, l.length)] := by
  rw [pcs, if_neg h, if_pos hn]
theorem pcs_pos (k : Nat) (l : List UInt8) (h : l ≠ []) {a : Nat} (hn : Lib.indexAny l chs3 = (a : Int)) (ha : 0 < a) : pcs (k + 1) l = (false, l.take a, true, a) :: pcs k (l.drop a) := by
  rw [pcs, if_neg h, hn, if_neg (by omega), if_pos (by omega)]
  rfl
theorem pcs_bad (k : Nat) (l : List UInt8) (hn : Lib.indexAny (60 :: l) chs3 = 0) (hb : Lib.indexAny l chs2 < 0 ∨ l[(Lib.indexAny l chs2).toNat]? = some 60) : pcs (k + 1) (60 :: l) = [(false, [], false, 1)] := by
  rw [pcs, if_neg (by simp), hn, if_neg (by omega), if_neg (by omega), if_pos (show (60 :: l).head? = some 60 from rfl)]
  exact if_pos hb
theorem pcs_tag (k : Nat) (l : List UInt8) (hn : Lib.indexAny (60 :: l) chs3 = 0) {a : Nat} (ha : Lib.indexAny l chs2 = (a : Int)) (hb : l[a]? ≠ some 60) : pcs (k + 1) (60 :: l) = (true, l.take a, true, a + 2) :: pcs k (l.drop (a + 1)) := by
  rw [pcs, if_neg (by simp), hn, if_neg (by omega), if_neg (by omega), if_pos (show (60 :: l).head? = some 60 from rfl)]
  simp only [List.drop_succ_cons, List.drop_zero, ha, Int.toNat_natCast]
  rw [if_neg (by rintro (h | h); omega; exact hb h)]
theorem pcs_esc (k : Nat) (l : List UInt8) (h : l ≠ []) (hn : Lib.indexAny l chs3 = 0) (h60 : l.head? ≠ some 60) {i : Nat} (hi : unesc l 0 = some i) : pcs (k + 1) l = (false, [keyOf i], true, (valOf i).length) :: pcs k (l.drop (valOf i).length) := by
  rw [pcs, if_neg h, hn, if_neg (by omega), if_neg (by omega), if_neg h60, hi]
theorem pcs_unk (k : Nat) (l : List UInt8) (h : l ≠ []) (hn : Lib.indexAny l chs3 = 0) (h60 : l.head? ≠ some 60) (hi : unesc l 0 = none) : pcs (k + 1) l = [(false, [], false, 1)] := by
  rw [pcs, if_neg h, hn, if_neg (by omega), if_neg (by omega), if_neg h60, hi]
theorem unesc_len (l : List UInt8) : ∀ (n j i : Nat), n = 5 - j → unesc l j = some i → i < 5 ∧ (valOf i).length ≤ l.length := by
  intro n
  induction n with
  | zero =>
    intro j i hn h
    rw [unesc, if_neg (by omega)] at h
    cases h
  | succ n ih =>
    intro j i hn h
    rw [unesc, if_pos (by omega)] at h
    split at h
    · rename_i hp
      cases h
      exact ⟨by omega, (List.isPrefixOf_iff_prefix.1 hp).length_le⟩
    · exact ih (j + 1) i (by omega) h
theorem pcs_nil (k : Nat) : pcs k [] = [] := by
  cases k <;> rfl
theorem yld_keep {fy : FuncId} {c1 c2 : Value} {σ : Type} {step : σ → Bool → List UInt8 → Bool → σ} {B bs L : Nat} {Inv : Nat → σ → World → Prop} (Y : Yld fy c1 c2 σ step B bs L Inv) {w wr w3 : World} {o : Obj} {c : Nat} {st : σ} (hB : B ≤ bs) (hb : Below wr.heap.size wr w3)
    (hbs : wr.heap[bs]? = some o) (hI : Inv c st wr) (hw : Below B w wr) : w3.heap[bs]? = some o ∧ Inv c st w3 ∧ Below B w w3 := by
  have hlt := blk_lt hbs
  exact ⟨(hb.block _ hlt).trans hbs, Y.stable c st wr w3 hI (fun k hk _ => hb.block k hk) hb.size, hw.trans (hb.mono (by omega))⟩
theorem idx_add1 (x : UInt8) (r : List UInt8) (e : Nat) (h : 1 + e < (x :: r).length) : (x :: r)[1 + e]'h = r[e]'(by simp only [List.length_cons] at h; omega) := by
  simp only [Nat.add_comm 1 e, List.getElem_cons_succ]
theorem ext_mid' (x : UInt8) (r : List UInt8) (e : Nat) : (ByteArray.mk (x :: r).toArray).extract 1 (1 + e) = ⟨(r.take e).toArray⟩ := by
  rw [Nat.add_comm]
  exact ext_mid x r e
attribute [local go_sem] idx_list idx_add1
set_option maxRecDepth 100000 in
set_option maxHeartbeats 4000000 in
theorem iter_calls {fy : FuncId} {c1 c2 : Value} {σ : Type} {step : σ → Bool → List UInt8 → Bool → σ} {B bs L : Nat} {Inv : Nat → σ → World → Prop} (Y : Yld fy c1 c2 σ step B bs L Inv) (l : List UInt8) (st : σ) (w : World)
    (hB : B ≤ bs) (hL : L < 4294967281) (hl : l.length ≤ L) (hbs : w.heap[bs]? = some (.cells #[.string ⟨l.toArray⟩] 9 (0, 0))) (hI : Inv 0 st w) :
    Calls Tryz.prog 34 #[.func (.func fy) #[] #[c1, c2], .pointer (some ⟨bs, 0, none⟩)] w fun e w' => e = .returned (.tuple #[]) ∧ (∃ c, Inv c ((pcs l.length l).foldl (run1 step) st) w') ∧ Below B w w' := by
  have he := Y.enters
  have HI := Aside0.mk hI
  have HBS := Aside0.mk hbs
  clear hI hbs
  obtain ⟨fin, hfin⟩ : ∃ fin, fin = (pcs l.length l).foldl (run1 step) st := ⟨_, rfl⟩
  rw [← hfin]
  have HF := Aside0.mk hfin
  clear hfin
  go_enter Tryz.func34, Tryz.ntmps34
  go_wp2
  go_loopg [3, 4, 5, 6, 7] l.length (fun kq v3 v4 v5 v6 v7 w2 => ∃ (l' : List UInt8) (c : Nat) (st' : σ), l'.length ≤ kq ∧ c + l'.length ≤ L ∧ Aside0 (fin = (pcs kq l').foldl (run1 step) st') ∧ Aside0 (w2.heap[bs]? = some (.cells #[.string ⟨l'.toArray⟩] 9 (0, 0))) ∧ Aside0 (Inv c st' w2) ∧ Aside0 (Below B w w2))
  case atStart => exact ⟨l, 0, st, by omega, by omega, HF, HBS, HI, Aside0.mk (Below.refl _ _)⟩
  case round =>
    clear HBS HI HF
    obtain ⟨l', c, st', hk, hc, HF, HBS, HI, HB⟩ := hrel
    have cb : wr.cell? ⟨bs, 0, none⟩ = some (.string ⟨l'.toArray⟩) := blk_cell HBS.out 0
    by_cases hnil : l' = []
    · subst hnil
      go_wp2
      go_end0
      exact ⟨rfl, ⟨c, by rw [HF.out, pcs_nil]; exact HI.out⟩, HB.out⟩
    · have hpos : 0 < l'.length := List.length_pos_iff.2 hnil
      have hie : l'.isEmpty = false := by cases l' with | nil => exact absurd rfl hnil | cons _ _ => rfl
      cases gk with
      | zero => omega
      | succ k1 =>
        go_wp2_with fail
        refine (IndexAny_calls l' chs3 _ (by decide) (by decide) (by omega) (by decide)).mono ?_
        rintro e w3 ⟨rfl, hb3⟩
        obtain ⟨k1', k2, k3⟩ := yld_keep Y hB hb3 HBS.out HI.out HB.out
        have c3 : w3.cell? ⟨bs, 0, none⟩ = some (.string ⟨l'.toArray⟩) := blk_cell k1' 0
        have HBS3 := Aside0.mk k1'
        have HI3 := Aside0.mk k2
        have HB3 := Aside0.mk k3
        clear cb HBS HI HB hb3 k1' k2 k3
        rcases indexAny_at chs3 l' with hneg | ⟨a, x, ha, hx, hxc, hal⟩
        · have hp := pcs_neg k1 l' hnil hneg
          have HP := Aside0.mk hp
          clear hp
          generalize Lib.indexAny l' chs3 = at' at *
          go_wp2_with fail
          refine (Y.call c st' false l' true w3 l'.length HI3.out (Nat.le_refl _) hpos hc (by simp)).mono ?_
          rintro e w4 ⟨rfl, hI4, hbs4, hB4⟩
          have HI4 := Aside0.mk hI4
          have HB4 := Aside0.mk hB4
          clear hI4 hbs4 hB4
          go_wp2
          refine bodyPost_ret (results_none rfl _ _ _) rfl ?_
          exact ⟨rfl, ⟨_, by rw [HF.out, HP.out]; exact HI4.out⟩, HB3.out.trans HB4.out⟩
        · by_cases ha0 : 0 < a
          · have HP := Aside0.mk (pcs_pos k1 l' hnil ha ha0)
            have haz : (0 : Int) < (a : Int) := by omega
            have hsz : (ByteArray.mk l'.toArray).size = l'.length := by simp [ByteArray.size]
            have haz2 : (a : Int) ≤ ((ByteArray.mk l'.toArray).size : Int) := by omega
            rw [ha]
            clear ha
            go_wp2_with fail
            rw [ext_take]
            refine (Y.call c st' false (l'.take a) true w3 a HI3.out (by rw [List.length_take]; omega) ha0 (by omega) (by simp)).mono ?_
            rintro e w4 ⟨rfl, hI4, hbs4, hB4⟩
            have hb5 := hbs4.trans HBS3.out
            have c4 : w4.cell? ⟨bs, 0, none⟩ = some (.string ⟨l'.toArray⟩) := blk_cell hb5 0
            have f4 := blk_frozen hb5 0
            have HBS4 := Aside0.mk hb5
            have HI4 := Aside0.mk hI4
            have HB4 := Aside0.mk (HB3.out.trans hB4)
            clear hI4 hbs4 hB4 hb5 HBS3 HI3 HB3 c3
            go_wp2
            go_roundg k1
            case measure => omega
            case rel => exact ⟨l'.drop a, c + a, _, by rw [List.length_drop]; omega, by rw [List.length_drop]; omega, Aside0.mk (by rw [HF.out, HP.out]; rfl), Aside0.mk (by rw [ext_drop']; exact blk_put HBS4.out 0 _ rfl), Aside0.mk (Y.stable _ _ _ _ HI4.out (fun k hk hne => Below.heap_setCell _ _ _ _ hne) (by simp [World.setCell])), Aside0.mk (HB4.out.setCell (p := ⟨bs, 0, none⟩) hB _)⟩
          · obtain rfl : a = 0 := by omega
            obtain ⟨r, rfl⟩ : ∃ r, l' = x :: r := by
              cases l' with
              | nil => exact absurd rfl hnil
              | cons y r => simp only [List.getElem?_cons_zero, Option.some.injEq] at hx; exact ⟨r, by rw [hx]⟩
            have hsz : (ByteArray.mk (x :: r).toArray).size = r.length + 1 := by simp [ByteArray.size]
            have hsz0 : (0 : Int) < ((ByteArray.mk (x :: r).toArray).size : Int) := by omega
            have hsz1 : (1 : Int) ≤ ((ByteArray.mk (x :: r).toArray).size : Int) := by omega
            have HA := Aside0.mk ha
            rw [ha]
            simp only [List.length_cons] at hk hc hpos hal
            clear ha hx
            by_cases h60 : x = 60
            · subst h60
              go_wp2_with fail
              rw [ext_tail]
              refine (IndexAny_calls r chs2 _ (by decide) (by decide) (by omega) (by decide)).mono ?_
              rintro e w5 ⟨rfl, hb5⟩
              obtain ⟨k1', k2, k3⟩ := yld_keep Y hB hb5 HBS3.out HI3.out HB3.out
              have c5 : w5.cell? ⟨bs, 0, none⟩ = some (.string ⟨(60 :: r).toArray⟩) := blk_cell k1' 0
              have HBS5 := Aside0.mk k1'
              have HI5 := Aside0.mk k2
              have HB5 := Aside0.mk k3
              clear c3 HBS3 HI3 HB3 hb5 k1' k2 k3
              rcases indexAny_at chs2 r with hneg | ⟨e, y, hy, hye, hyc, hel⟩
              · have HP := Aside0.mk (pcs_bad k1 r HA.out (.inl hneg))
                generalize Lib.indexAny r chs2 = at' at *
                go_wp2_with fail
                refine (Y.call c st' false [] false w5 1 HI5.out (by simp) (Nat.le_refl _) (by omega) (by simp)).mono ?_
                rintro e w6 ⟨rfl, hI6, hbs6, hB6⟩
                have HI6 := Aside0.mk hI6
                have HB6 := Aside0.mk hB6
                clear hI6 hbs6 hB6
                go_wp2
                refine bodyPost_ret (results_none rfl _ _ _) rfl ?_
                exact ⟨rfl, ⟨_, by rw [HF.out, HP.out]; exact HI6.out⟩, HB5.out.trans HB6.out⟩
              · have hre : r[e]'hel = y := by
                  have := List.getElem?_eq_getElem hel
                  rw [this] at hye
                  exact Option.some.inj hye
                have hge : ¬ (e : Int) < 0 := by omega
                by_cases hy60 : y = 60
                · subst hy60
                  have HP := Aside0.mk (pcs_bad k1 r HA.out (.inr (by rw [hy]; exact hye)))
                  have hr60 : ((r[e]'hel).toNat : Int) = 60 := by rw [hre]; rfl
                  rw [hy]
                  clear hy hye hyc hre
                  go_wp2_with fail
                  refine (Y.call c st' false [] false w5 1 HI5.out (by simp) (Nat.le_refl _) (by omega) (by simp)).mono ?_
                  rintro e w6 ⟨rfl, hI6, hbs6, hB6⟩
                  have HI6 := Aside0.mk hI6
                  have HB6 := Aside0.mk hB6
                  clear hI6 hbs6 hB6
                  go_wp2
                  refine bodyPost_ret (results_none rfl _ _ _) rfl ?_
                  exact ⟨rfl, ⟨_, by rw [HF.out, HP.out]; exact HI6.out⟩, HB5.out.trans HB6.out⟩
                · have HP := Aside0.mk (pcs_tag k1 r HA.out hy (by rw [hye]; simp [hy60]))
                  have hr60 : ¬ ((r[e]'hel).toNat : Int) = 60 := by
                    rw [hre]
                    intro e
                    exact hy60 (UInt8.toNat_inj.1 (by show y.toNat = 60; omega))
                  have hr60b : (((r[e]'hel).toNat : Int) == 60) = false := beq_eq_false_iff_ne.2 hr60
                  rw [hy]
                  clear hy hye hyc hre
                  go_wp2_with fail
                  rw [ext_mid']
                  refine (Y.call c st' true (r.take e) true w5 (e + 2) HI5.out (by rw [List.length_take]; omega) (by omega) (by omega) (by simp)).mono ?_
                  rintro e1 w6 ⟨rfl, hI6, hbs6, hB6⟩
                  have hb6 := hbs6.trans HBS5.out
                  have c6 : w6.cell? ⟨bs, 0, none⟩ = some (.string ⟨(60 :: r).toArray⟩) := blk_cell hb6 0
                  have f6 := blk_frozen hb6 0
                  have HBS6 := Aside0.mk hb6
                  have HI6 := Aside0.mk hI6
                  have HB6 := Aside0.mk (HB5.out.trans hB6)
                  clear hI6 hbs6 hB6 hb6 HBS5 HI5 HB5 c5
                  go_wp2
                  rw [ext_far]
                  go_roundg k1
                  case measure => omega
                  case rel => exact ⟨r.drop (e + 1), c + (e + 2), _, by rw [List.length_drop]; omega, by rw [List.length_drop]; omega, Aside0.mk (by rw [HF.out, HP.out]; rfl), Aside0.mk (blk_put HBS6.out 0 _ rfl), Aside0.mk (Y.stable _ _ _ _ HI6.out (fun k hk hne => Below.heap_setCell _ _ _ _ hne) (by simp [World.setCell])), Aside0.mk (HB6.out.setCell (p := ⟨bs, 0, none⟩) hB _)⟩
            · have h60' : ¬ (x.toNat : Int) = 60 := by
                intro e
                exact h60 (UInt8.toNat_inj.1 (by show x.toNat = 60; omega))
              go_wp2_with fail
              refine (unescaped_calls (x :: r) _).mono ?_
              rintro e w5 ⟨rfl, hb5⟩
              obtain ⟨k1', k2, k3⟩ := yld_keep Y hB hb5 HBS3.out HI3.out HB3.out
              have c5 : w5.cell? ⟨bs, 0, none⟩ = some (.string ⟨(x :: r).toArray⟩) := blk_cell k1' 0
              have HBS5 := Aside0.mk k1'
              have HI5 := Aside0.mk k2
              have HB5 := Aside0.mk k3
              clear c3 HBS3 HI3 HB3 hb5 k1' k2 k3
              cases hu : unesc (x :: r) 0 with
              | none =>
                have HP := Aside0.mk (pcs_unk k1 (x :: r) (by simp) HA.out (by simp [h60]) hu)
                have hv : unescV (x :: r) = .tuple #[.string ⟨#[]⟩, .string ⟨#[]⟩, .bool false] := by unfold unescV; rw [hu]
                rw [hv]
                go_wp2_with fail
                refine (Y.call c st' false [] false w5 1 HI5.out (by simp) (Nat.le_refl _) (by omega) (by simp)).mono ?_
                rintro e w6 ⟨rfl, hI6, hbs6, hB6⟩
                have HI6 := Aside0.mk hI6
                have HB6 := Aside0.mk hB6
                clear hI6 hbs6 hB6
                go_wp2
                refine bodyPost_ret (results_none rfl _ _ _) rfl ?_
                exact ⟨rfl, ⟨_, by rw [HF.out, HP.out]; exact HI6.out⟩, HB5.out.trans HB6.out⟩
              | some i =>
                have HP := Aside0.mk (pcs_esc k1 (x :: r) (by simp) HA.out (by simp [h60]) hu)
                have hv : unescV (x :: r) = .tuple #[.string ⟨#[keyOf i]⟩, .string ⟨((x :: r).drop (valOf i).length).toArray⟩, .bool true] := by unfold unescV; rw [hu]
                obtain ⟨hi5, hvl⟩ := unesc_len (x :: r) 5 0 i rfl hu
                have hv1 := (val_len i).1
                simp only [List.length_cons] at hvl
                rw [hv]
                clear hu hv
                generalize hvd : (x :: r).drop (valOf i).length = rest at *
                have hrl : rest.length = r.length + 1 - (valOf i).length := by rw [← hvd, List.length_drop]; rfl
                go_wp2_with fail
                refine (Y.call c st' false [keyOf i] true w5 (valOf i).length HI5.out (by simpa using hv1) hv1 (by omega) (by simp)).mono ?_
                rintro e w6 ⟨rfl, hI6, hbs6, hB6⟩
                have hb6 := hbs6.trans HBS5.out
                have c6 : w6.cell? ⟨bs, 0, none⟩ = some (.string ⟨(x :: r).toArray⟩) := blk_cell hb6 0
                have f6 := blk_frozen hb6 0
                have HBS6 := Aside0.mk hb6
                have HI6 := Aside0.mk hI6
                have HB6 := Aside0.mk (HB5.out.trans hB6)
                clear hI6 hbs6 hB6 hb6 HBS5 HI5 HB5 c5
                go_wp2
                go_roundg k1
                case measure => omega
                case rel => exact ⟨rest, c + (valOf i).length, _, by omega, by omega, Aside0.mk (by rw [HF.out, HP.out]; rfl), Aside0.mk (blk_put HBS6.out 0 _ rfl), Aside0.mk (Y.stable _ _ _ _ HI6.out (fun k hk hne => Below.heap_setCell _ _ _ _ hne) (by simp [World.setCell])), Aside0.mk (HB6.out.setCell (p := ⟨bs, 0, none⟩) hB _)⟩
end Go.Proofs.YtllgcpoljdjjnaaGreat.Pg
