/- Walks: the small functions of layer 15. -/
import Derived.Test.YtifhiloeghmfiaaDoorRows
import Derived.WalkKit
import Derived.WalkSpells
import Derived.WalkLawsBesides
import Derived.Lib.Hide
import Derived.Deep.QuietTactic
import Derived.BigQuiet
import Derived.Test.YtifhiloeghmfiaaDoorWWords
import Derived.Test.YtifhiloeghmfiaaDoorWLast
import Derived.Test.YtifhiloeghmfiaaDoorWMore
import Derived.Test.YtifhiloeghmfiaaDoorMapL
import Derived.StillTailTactics
import Derived.Maps.OwnOps
set_option linter.unusedVariables false
set_option linter.unusedSimpArgs false
namespace Go.Proofs.YtifhiloeghmfiaaDoor.Cnf
open Go.RowKit Go.Proofs.YtifhiloeghmfiaaDoorW.PrintWords Go.Proofs.YtifhiloeghmfiaaDoorW.PrintLast Go.Proofs.YtifhiloeghmfiaaDoorW.PrintMore
attribute [local go_sem] max2_int min2_int max_two min_two

/-- The absolute value, as Go has it. -/
def absI (l : Int) : Int := if l < 0 then -l else l

theorem abs_calls (l : Int) (h : -4611686018427387904 ≤ l ∧ l ≤ 4611686018427387904) (w : World) :
    Calls Tryd.prog 34 #[.int .i64 l] w fun e w' => e = .returned (.int .i64 (absI l)) ∧ w = w' := by
  go_enter Tryd.func34, Tryd.ntmps34
  go_wp2
  all_goals go_ret
  all_goals exact ⟨by unfold absI; first | (rw [if_pos (by omega)]; rfl) | (rw [if_neg (by omega)]; rfl) | (split <;> (show Ending.returned (Value.int .i64 _) = _; congr; omega)), rfl⟩

theorem abs_quiet (l : Int) (h : -4611686018427387904 ≤ l ∧ l ≤ 4611686018427387904) (w : World) :
    Calls Tryd.prog 34 #[.int .i64 l] w fun e w' => e = .returned (.int .i64 (absI l)) ∧ w' = w :=
  (abs_calls l h w).mono fun _ _ h => ⟨h.1, h.2.symm⟩

def soundB (vars l : Int) : Bool := decide (l ≠ 0 ∧ -vars ≤ l ∧ l ≤ vars)

theorem sound_calls (vars l : Int) (h : 0 ≤ vars ∧ vars ≤ 4096) (w : World) :
    Calls Tryd.prog 28 #[.int .i64 vars, .int .i64 l] w fun e w' => e = .returned (.bool (soundB vars l)) ∧ w = w' := by
  by_cases h0 : l = 0
  · subst h0
    have hs : soundB vars 0 = false := by simp [soundB]
    rw [hs]
    clear hs
    go_enter Tryd.func28, Tryd.ntmps28
    go_wp2
    all_goals go_ret
    all_goals exact ⟨rfl, rfl⟩
  · have hne : (l != 0) = true := by simpa using h0
    by_cases h1 : -vars ≤ l
    · have hs : soundB vars l = decide (l ≤ vars) := by simp [soundB, h0, h1]
      rw [hs]
      clear hs h0
      go_enter Tryd.func28, Tryd.ntmps28
      go_wp2
      all_goals go_ret
      all_goals exact ⟨by simp, rfl⟩
    · have hs : soundB vars l = false := by simp [soundB, h1]
      rw [hs]
      clear hs h0
      go_enter Tryd.func28, Tryd.ntmps28
      go_wp2
      all_goals go_ret
      all_goals exact ⟨by simp, rfl⟩

/-- A function value on ints that only tells. -/
def PredI (D : Int → Prop) (g : Nat) (lb : Array Value) (p : Int → Bool) (w : World) : Prop :=
  (∀ (args : Array Value) (W : World), (callFunc g args).run Tryd.prog W = .ok (.enter g args) W) ∧ ∀ (n : Nat) (x : Int), D x → Calls Tryd.prog g (#[.int .i64 x] ++ lb) (w.drewN n) fun e w' => e = .returned (.bool (p x)) ∧ Drawn0 (w.drewN n) w'

def idxF (p : Int → Bool) : List Int → Int → Int
  | [], _ => -1
  | x :: r, i => if p x then i else idxF p r (i + 1)

theorem IndexFunc_calls (A0 : Option Addr) (c0 : Nat) (xs : List Int) (D : Int → Prop) (g : Nat) (lb : Array Value) (p : Int → Bool) (w : World)
    (hr : Kd.C (Kd.int .i64) w A0 xs.length xs) (hc : xs.length ≤ c0) (hb : xs.length ≤ 1000000000000) (hD : ∀ x, x ∈ xs → D x) (hp : PredI D g lb p w) :
    Calls Tryd.prog 45 #[.slice A0 xs.length c0, .func (.func g) #[] lb] w fun e w' => e = .returned (.int .i64 (idxF p xs 0)) ∧ Drawn0 w w' := by
  obtain ⟨r, hres⟩ : ∃ r, r = idxF p xs 0 := ⟨_, rfl⟩
  rw [← hres]
  have HRES := Aside0.mk hres
  have HR := Aside0.mk hr
  have eg := hp.1
  have HP := Aside0.mk hp.2
  have HD := Aside0.mk hD
  clear hD
  clear hr hp hres
  go_enter Tryd.func45, Tryd.ntmps45
  go_wp2
  go_loopg [5, 8] xs.length (fun kq v5 v8 w' => ∃ (k : Nat), k + kq = xs.length ∧ v8 = .int .i64 k ∧ Aside0 (r = idxF p (xs.drop k) k) ∧ Drawn0 w w')
  case atStart => exact ⟨0, by simp, rfl, HRES, Drawn0.refl _⟩
  case round =>
    obtain ⟨k, hk, rfl, HI, ⟨m, rfl⟩⟩ := hrel
    cases gk with
    | zero =>
      have hge : ¬ ((k : Int) < (xs.length : Int)) := by omega
      have he : r = -1 := by rw [HI.out, List.drop_of_length_le (by omega)]; rfl
      have HE := Aside0.mk he
      clear he
      go_wp2
      go_ret
      exact ⟨by rw [HE.out]; rfl, ⟨m, rfl⟩⟩
    | succ k1 =>
      have hlt : (k : Int) < (xs.length : Int) := by omega
      have hlt' : k < xs.length := by omega
      obtain ⟨ad, e, hx⟩ := Kd.at_int HR.out k (by omega) hlt
      cases e
      rw [Int.toNat_natCast] at hx
      have hd : xs.drop k = xs[k] :: xs.drop (k + 1) := List.drop_eq_getElem_cons hlt'
      have hrd : rd xs k = xs[k] := by simp [rd, hlt']
      have HC := HP.out m (rd xs k) (HD.out _ (by rw [hrd]; exact List.getElem_mem _))
      have HI' := HI.out
      rw [hd, ← hrd] at HI'
      simp only [idxF] at HI'
      clear hd hrd
      generalize rd xs k = x at *
      have HC' := Aside0.mk HC
      have HK := Aside0.mk hk
      have HI2 := Aside0.mk HI'
      clear HC HI' HI hk
      go_wp2_with fail
      refine (HC'.out).mono ?_
      rintro e w' ⟨rfl, ⟨m', rfl⟩⟩
      rw [World.drewN_drewN]
      by_cases hpx : p x = true
      · have he : r = k := by rw [HI2.out, if_pos hpx]
        have HE := Aside0.mk he
        clear he
        go_wp2
        go_ret
        exact ⟨by rw [HE.out]; rfl, ⟨_, rfl⟩⟩
      · have he : r = idxF p (xs.drop (k + 1)) ((k + 1 : Nat) : Int) := by rw [HI2.out, if_neg hpx]; rfl
        have HE := Aside0.mk he
        clear he
        have hpx' : p x = false := by simpa using hpx
        go_wp2
        go_roundg k1
        case measure => omega
        case rel => exact ⟨k + 1, by have := HK.out; omega, by go_num, HE, ⟨_, rfl⟩⟩

theorem idxF_any (p : Int → Bool) : ∀ (xs : List Int) (i : Int), 0 ≤ i → decide (0 ≤ idxF p xs i) = xs.any p
  | [], i, h => by simp [idxF]
  | x :: r, i, h => by
    by_cases hp : p x = true
    · simp [idxF, hp, h]
    · simp only [idxF, hp, if_false, Bool.false_eq_true, List.any_cons, Bool.false_or]
      exact idxF_any p r (i + 1) (by omega)

theorem ContainsFunc_calls (A0 : Option Addr) (c0 : Nat) (xs : List Int) (D : Int → Prop) (g : Nat) (lb : Array Value) (p : Int → Bool) (w : World)
    (hr : Kd.C (Kd.int .i64) w A0 xs.length xs) (hc : xs.length ≤ c0) (hb : xs.length ≤ 1000000000000) (hD : ∀ x, x ∈ xs → D x) (hp : PredI D g lb p w) :
    Calls Tryd.prog 26 #[.slice A0 xs.length c0, .func (.func g) #[] lb] w fun e w' => e = .returned (.bool (xs.any p)) ∧ Drawn0 w w' := by
  have ha : decide (0 ≤ idxF p xs 0) = xs.any p := idxF_any p xs 0 (by omega)
  rw [← ha]
  clear ha
  have HR := Aside0.mk hr
  have HP := Aside0.mk hp
  have HD := Aside0.mk hD
  clear hr hp hD
  go_enter Tryd.func26, Tryd.ntmps26
  go_wp2_with fail
  refine (IndexFunc_calls A0 c0 xs D g lb p w HR.out hc hb HD.out HP.out).mono ?_
  rintro e w' ⟨rfl, ⟨m, rfl⟩⟩
  go_wp2
  all_goals go_ret
  all_goals exact ⟨by simp, ⟨m, rfl⟩⟩
end Go.Proofs.YtifhiloeghmfiaaDoor.Cnf

/- Walks: Check, True (cnf). -/
namespace Go.Proofs.YtifhiloeghmfiaaDoor.Cnf
open Go.RowKit Go.Proofs.YtifhiloeghmfiaaDoorW.PrintWords Go.Proofs.YtifhiloeghmfiaaDoorW.PrintLast Go.Proofs.YtifhiloeghmfiaaDoorW.PrintMore

abbrev KL : Kd (List Int) := Kd.slice 3 (Kd.int .i64)
def rdL (xs : List (List Int)) (i : Nat) : List Int := xs.getD i []
theorem at_KL {w : World} {A : Option Addr} {n : Nat} {xs : List (List Int)} (h : Kd.C KL w A n xs) (i : Nat) (h1 : i < n) :
    ∃ ad A0 c0, A = some ad ∧ w.cell? (ad.add i) = some (.slice A0 (rdL xs i).length c0) ∧ (rdL xs i).length ≤ c0 ∧ (Kd.int .i64).C w A0 (rdL xs i).length (rdL xs i) := by
  obtain ⟨ad, c, e, _, hK, hc0⟩ := Kd.C_get h ([] : List Int) i (by omega) (by omega)
  have hc : ∀ j u, c[j]? = some u → w.cell? (ad.add ((i : Int).toNat * 1 + j)) = some u := hc0
  obtain ⟨A0, c0, rfl, l0, g0⟩ := hK
  exact ⟨ad, A0, c0, e, by have hq := hc 0 _ rfl; rwa [Nat.mul_one, Nat.add_zero, Int.toNat_natCast] at hq, by simpa [rdL] using l0, by simpa [rdL] using g0⟩

theorem Check1_pred (g : Nat) (vars : Int) (hv : 0 ≤ vars ∧ vars ≤ 4096) (w : World) (hc : w.cell? ⟨g, 0, none⟩ = some (.int .i64 vars)) :
    PredI (fun _ => True) 36 #[.pointer (some ⟨g, 0, none⟩)] (fun l => !soundB vars l) w := by
  refine ⟨fun args W => enters_ Tryd.func36 (by kernel_rfl) rfl args W, fun n x _ => ?_⟩
  obtain ⟨r, hr⟩ : ∃ r, r = soundB vars x := ⟨_, rfl⟩
  show Calls Tryd.prog 36 #[.int .i64 x, .pointer (some ⟨g, 0, none⟩)] (w.drewN n) _
  simp only [← hr]
  have HRr := Aside0.mk hr
  clear hr
  go_enter Tryd.func36, Tryd.ntmps36
  go_wp2_with fail
  refine (sound_calls vars x hv _).mono ?_
  rintro e w' ⟨rfl, rfl⟩
  rw [← HRr.out]
  go_wp2
  go_ret
  exact ⟨rfl, Drawn0.refl _⟩

def badC (vars : Int) (c : List Int) : Bool := decide (128 < (c.length : Int)) || c.any fun l => !soundB vars l
def badF (vars : Int) (cls : List (List Int)) : Bool := decide (vars < 0) || decide (4096 < vars) || decide (131072 < (cls.length : Int))
/-- An error's number, or none. -/
def errB : Bool → Int
  | true => 150
  | false => 0
def checkF (vars : Int) (cls : List (List Int)) : Int := errB (badF vars cls || cls.any (badC vars))

set_option maxHeartbeats 1000000 in
theorem Check_calls (vars : Int) (A : Option Addr) (c : Nat) (cls : List (List Int)) (w : World) (hv : -9223372036854775808 ≤ vars ∧ vars ≤ 9223372036854775807)
    (hr : Kd.C KL w A cls.length cls) (hc : cls.length ≤ c) :
    Calls Tryd.prog 18 #[.agg #[.int .i64 vars, .slice A cls.length c]] w fun e w' => e = .returned (.int .i64 (checkF vars cls)) ∧ Below w.heap.size w w' := by
  obtain ⟨r, hres⟩ : ∃ r, r = checkF vars cls := ⟨_, rfl⟩
  rw [← hres]
  have HRES := Aside0.mk hres
  have HR := Aside0.mk hr
  clear hr hres
  by_cases hbad : badF vars cls = true
  · have he : r = 150 := by rw [HRES.out, checkF, hbad]; rfl
    have HE := Aside0.mk he
    clear he HRES
    have hd : vars < 0 ∨ 0 ≤ vars ∧ 4096 < vars ∨ 0 ≤ vars ∧ vars ≤ 4096 ∧ 131072 < (cls.length : Int) := by simp [badF] at hbad; omega
    clear hbad
    rcases hd with h1 | ⟨h1, h2⟩ | ⟨h1, h2, h3⟩
    all_goals
      go_enter Tryd.func18, Tryd.ntmps18
      go_wp2
      go_ret
      exact ⟨by rw [HE.out]; rfl, (Below.refl _ _).alloc (Nat.le_refl _) _⟩
  · obtain ⟨⟨h1, h2⟩, h3⟩ : (0 ≤ vars ∧ vars ≤ 4096) ∧ (cls.length : Int) ≤ 131072 := by
      simp [badF] at hbad; omega
    have HR' := Aside0.mk (show r = errB (cls.any (badC vars)) by rw [HRES.out, checkF]; simp [hbad])
    clear hbad HRES
    go_enter Tryd.func18, Tryd.ntmps18
    go_wp2
    have hcell : (w.alloc (.cells #[.int .i64 vars, .slice A cls.length c] 24)).cell? ⟨w.heap.size, 0, none⟩ = some (.int .i64 vars) := by go_simp
    have hbel : Below w.heap.size w (w.alloc (.cells #[.int .i64 vars, .slice A cls.length c] 24)) := (Below.refl _ _).alloc (Nat.le_refl _) _
    generalize w.alloc (.cells #[.int .i64 vars, .slice A cls.length c] 24) = w1 at hcell hbel ⊢
    have HB := Aside0.mk hbel
    clear hbel
    go_loopg [4, 22] cls.length (fun kq v4 v22 w' => ∃ (k : Nat), k + kq = cls.length ∧ v22 = .int .i64 k ∧ Aside0 (r = errB ((cls.drop k).any (badC vars))) ∧ Drawn0 w1 w')
    case atStart => exact ⟨0, by simp, rfl, HR', Drawn0.refl _⟩
    case round =>
      obtain ⟨k, hk, rfl, HI, ⟨m, rfl⟩⟩ := hrel
      cases gk with
      | zero =>
        have hge : ¬ ((k : Int) < (cls.length : Int)) := by omega
        have he : r = 0 := by rw [HI.out, List.drop_of_length_le (by omega)]; rfl
        have HE := Aside0.mk he
        clear he
        go_wp2
        go_ret
        exact ⟨by rw [HE.out]; rfl, pw_below_drewN HB.out m⟩
      | succ k1 =>
        have hlt : (k : Int) < (cls.length : Int) := by omega
        have hlt' : k < cls.length := by omega
        obtain ⟨ad, A0, c0, e, hx, hl, hin⟩ := at_KL (Kd.C_below HR.out HB.out) k hlt'
        cases e
        have hd : cls.drop k = rdL cls k :: cls.drop (k + 1) := by rw [List.drop_eq_getElem_cons hlt']; simp [rdL, hlt']
        have HI2 := Aside0.mk (show r = errB ((rdL cls k :: cls.drop (k + 1)).any (badC vars)) by rw [← hd]; exact HI.out)
        clear hd HI
        have HL := Aside0.mk hl
        have HIN := Aside0.mk hin
        have HK := Aside0.mk hk
        clear hl hin hk
        generalize rdL cls k = x at *
        simp only [List.any_cons, badC] at HI2
        by_cases hlen : 128 < (x.length : Int)
        · have he : r = 150 := by rw [HI2.out, decide_eq_true hlen]; rfl
          have HE := Aside0.mk he
          clear he HI2
          go_wp2
          go_ret
          exact ⟨by rw [HE.out]; rfl, pw_below_drewN HB.out m⟩
        · have hlen2 : (x.length : Int) ≤ 128 := by omega
          clear hlen
          have he : r = errB ((x.any fun l => !soundB vars l) || (cls.drop (k + 1)).any (badC vars)) := by
            rw [HI2.out, decide_eq_false (by omega : ¬ 128 < (x.length : Int)), Bool.false_or]
          have HE := Aside0.mk he
          clear he HI2
          go_wp2_with fail
          refine (ContainsFunc_calls A0 c0 x (fun _ => True) 36 _ _ _ ?_ HL.out (by omega) (fun _ _ => trivial) (Check1_pred w.heap.size vars ⟨h1, h2⟩ _ ?_)).mono ?_
          · exact Kd.C_drewN HIN.out _
          · go_simp
          rintro e w' ⟨rfl, ⟨m', rfl⟩⟩
          rw [World.drewN_drewN]
          by_cases hany : (x.any fun l => !soundB vars l) = true
          · have he : r = 150 := by rw [HE.out, hany]; rfl
            have HE2 := Aside0.mk he
            clear he HE
            go_wp2
            go_ret
            exact ⟨by rw [HE2.out]; rfl, pw_below_drewN HB.out _⟩
          · have hany' : (x.any fun l => !soundB vars l) = false := by simpa using hany
            clear hany
            have he : r = errB ((cls.drop (k + 1)).any (badC vars)) := by rw [HE.out, hany']; rfl
            have HE2 := Aside0.mk he
            clear he HE
            go_wp2
            go_roundg k1
            case measure => omega
            case rel => exact ⟨k + 1, by have := HK.out; omega, by go_num, HE2, ⟨_, rfl⟩⟩
end Go.Proofs.YtifhiloeghmfiaaDoor.Cnf

/- Walks: True (cnf). -/
namespace Go.Proofs.YtifhiloeghmfiaaDoor.Cnf
open Go.RowKit Go.Proofs.YtifhiloeghmfiaaDoorW.PrintWords Go.Proofs.YtifhiloeghmfiaaDoorW.PrintLast Go.Proofs.YtifhiloeghmfiaaDoorW.PrintMore

theorem absI_range {vars l : Int} (h : soundB vars l = true) (hv : 0 ≤ vars ∧ vars ≤ 4096) : 1 ≤ absI l ∧ absI l ≤ vars ∧ -4096 ≤ l ∧ l ≤ 4096 := by
  simp [soundB] at h
  unfold absI
  split <;> omega

def rdB (xs : List Bool) (i : Int) : Bool := xs.getD i.toNat false
/-- Does a model make a literal true? -/
def litT (model : List Bool) (l : Int) : Bool := rdB model (absI l) == decide (0 < l)

theorem at_bool {w : World} {A : Option Addr} {n : Nat} {xs : List Bool} (h : Kd.C Kd.bool w A n xs) (i : Int) (h0 : 0 ≤ i) (h1 : i < n) : ∃ ad, A = some ad ∧ w.cell? (ad.add i.toNat) = some (.bool (rdB xs i)) := by
  obtain ⟨ad, c, e, _, hK, hc0⟩ := Kd.C_get h false i h0 h1
  have hc : ∀ j u, c[j]? = some u → w.cell? (ad.add (i.toNat * 1 + j)) = some u := hc0
  have hK' : c = [.bool (xs.getD i.toNat false)] := hK
  subst hK'
  exact ⟨ad, e, by have hq := hc 0 _ rfl; rwa [Nat.mul_one, Nat.add_zero] at hq⟩

set_option maxHeartbeats 1000000 in
theorem True1_pred (g : Nat) (vars : Int) (hv : 0 ≤ vars ∧ vars ≤ 4096) (A : Option Addr) (c : Nat) (model : List Bool) (hm : (model.length : Int) = vars + 1) (w : World)
    (hc : w.cell? ⟨g, 0, none⟩ = some (.slice A model.length c)) (hr : Kd.C Kd.bool w A model.length model) :
    PredI (fun l => soundB vars l = true) 33 #[.pointer (some ⟨g, 0, none⟩)] (litT model) w := by
  refine ⟨fun args W => enters_ Tryd.func33 (by kernel_rfl) rfl args W, fun n x hx => ?_⟩
  have hb := absI_range hx hv
  obtain ⟨b1, b2, b3, b4⟩ := hb
  have hlt : absI x < (model.length : Int) := by omega
  obtain ⟨ad, e, hcell⟩ := at_bool (Kd.C_drewN hr n) (absI x) (by omega) hlt
  cases e
  clear hx
  show Calls Tryd.prog 33 #[.int .i64 x, .pointer (some ⟨g, 0, none⟩)] (w.drewN n) _
  have h0 : 0 ≤ absI x := by omega
  have hcell0 : (w.drewN n).cell? ⟨g, 0, none⟩ = some (.slice (some ad) model.length c) := by rw [World.cell?_drewN]; exact hc
  have HL : litT model x = (rdB model (absI x) == decide (0 < x)) := rfl
  rw [HL]
  generalize rdB model (absI x) = mv at *
  have HM := Aside0.mk hm
  clear hm HL hr hc
  generalize w.drewN n = w0 at *
  go_enter Tryd.func33, Tryd.ntmps33
  go_wp2
  go_quiet ((go_at_call 34; exact Calls.quiet_of_same (abs_quiet x (by omega) _)))
  go_wp2
  go_ret
  exact ⟨rfl, ⟨_, rfl⟩⟩

theorem checkF_zero {vars : Int} {cls : List (List Int)} (h : checkF vars cls = 0) :
    (0 ≤ vars ∧ vars ≤ 4096) ∧ cls.length ≤ 131072 ∧ ∀ c, c ∈ cls → c.length ≤ 128 ∧ ∀ l, l ∈ c → soundB vars l = true := by
  unfold checkF at h
  cases hb : (badF vars cls || cls.any (badC vars)) with
  | true => rw [hb] at h; simp [errB] at h
  | false =>
    rw [Bool.or_eq_false_iff] at hb
    obtain ⟨h1, h2⟩ := hb
    simp [badF] at h1
    refine ⟨by omega, by omega, fun c hc => ?_⟩
    have := List.any_eq_false.1 h2 c hc
    simp [badC] at this
    exact ⟨by omega, fun l hl => this.2 l hl⟩
theorem checkF_or (vars : Int) (cls : List (List Int)) : checkF vars cls = 0 ∨ checkF vars cls = 150 := by
  unfold checkF
  cases (badF vars cls || cls.any (badC vars))
  · exact .inl rfl
  · exact .inr rfl

/-- The answer of True. -/
def trueF (vars : Int) (cls : List (List Int)) (model : List Bool) : Bool × Int :=
  if checkF vars cls = 0 ∧ (model.length : Int) = vars + 1 then (cls.all fun c => c.any (litT model), 0) else (false, 150)

set_option maxHeartbeats 1000000 in
theorem True_calls (vars : Int) (A : Option Addr) (c : Nat) (cls : List (List Int)) (Am : Option Addr) (cm : Nat) (model : List Bool) (w : World) (hv : -9223372036854775808 ≤ vars ∧ vars ≤ 9223372036854775807)
    (hr : Kd.C KL w A cls.length cls) (hc : cls.length ≤ c) (hrm : Kd.C Kd.bool w Am model.length model) (hcm : model.length ≤ cm) (hlm : model.length ≤ 140737488355328) :
    Calls Tryd.prog 16 #[.agg #[.int .i64 vars, .slice A cls.length c], .slice Am model.length cm] w fun e w' => e = .returned (.tuple #[.bool (trueF vars cls model).1, .int .i64 (trueF vars cls model).2]) ∧ Below w.heap.size w w' := by
  obtain ⟨r1, hr1⟩ : ∃ r, r = (trueF vars cls model).1 := ⟨_, rfl⟩
  obtain ⟨r2, hr2⟩ : ∃ r, r = (trueF vars cls model).2 := ⟨_, rfl⟩
  rw [← hr1, ← hr2]
  have HR1 := Aside0.mk hr1
  have HR2 := Aside0.mk hr2
  have HR := Aside0.mk hr
  have HRM := Aside0.mk hrm
  clear hr hr1 hr2 hrm
  go_enter Tryd.func16, Tryd.ntmps16
  go_wp2_with fail
  refine (Check_calls vars A c cls _ hv ?_ hc).mono ?_
  · exact Kd.C_alloc (Kd.C_alloc HR.out _) _
  rintro e w' ⟨rfl, hb⟩
  have hc0 : w'.cell? ⟨w.heap.size, 0, none⟩ = some (.int .i64 vars) := (hb.cell (p := ⟨w.heap.size, 0, none⟩) (by simp; omega)).trans (by go_simp)
  have hc1 : w'.cell? ⟨w.heap.size, 1, none⟩ = some (.slice A cls.length c) := (hb.cell (p := ⟨w.heap.size, 1, none⟩) (by simp; omega)).trans (by go_simp)
  have hc2 : w'.cell? ⟨w.heap.size + 1, 0, none⟩ = some (.slice Am model.length cm) := (hb.cell (p := ⟨w.heap.size + 1, 0, none⟩) (by simp)).trans (by go_simp)
  have hbel : Below w.heap.size w w' := (((Below.refl _ _).alloc (Nat.le_refl _) _).alloc (by simp) _).trans (hb.mono (by simp; omega))
  clear hb
  have HB := Aside0.mk hbel
  clear hbel
  rcases checkF_or vars cls with hz | hz
  · obtain ⟨⟨h1, h2⟩, h3, h4⟩ := checkF_zero hz
    have H4 := Aside0.mk h4
    clear h4
    by_cases hlen : (model.length : Int) = vars + 1
    · have e1 : r1 = cls.all fun c => c.any (litT model) := by rw [HR1.out, trueF, if_pos ⟨hz, hlen⟩]
      have e2 : r2 = 0 := by rw [HR2.out, trueF, if_pos ⟨hz, hlen⟩]
      have E1 := Aside0.mk e1
      have E2 := Aside0.mk e2
      have HL := Aside0.mk hlen
      rw [hz]
      have hne : ((model.length : Int) != vars + 1) = false := by simpa using hlen
      clear e1 e2 HR1 HR2 hz hlen
      go_wp2_with fail
      go_loopg [7, 22] cls.length (fun kq v7 v22 w2 => ∃ (k : Nat), k + kq = cls.length ∧ v22 = .int .i64 k ∧ Aside0 (r1 = (cls.drop k).all fun c => c.any (litT model)) ∧ Drawn0 w' w2)
      case atStart => exact ⟨0, by simp, rfl, E1, Drawn0.refl _⟩
      case round =>
        obtain ⟨k, hk, rfl, HI, ⟨m, rfl⟩⟩ := hrel
        cases gk with
        | zero =>
          have hge : ¬ ((k : Int) < (cls.length : Int)) := by omega
          have he : r1 = true := by rw [HI.out, List.drop_of_length_le (by omega)]; rfl
          have HE := Aside0.mk he
          clear he
          go_wp2
          go_ret2
          exact ⟨by rw [HE.out, E2.out]; rfl, pw_below_drewN HB.out m⟩
        | succ k1 =>
          have hlt : (k : Int) < (cls.length : Int) := by omega
          have hlt' : k < cls.length := by omega
          obtain ⟨ad, A0, c0, e, hx, hl, hin⟩ := at_KL (Kd.C_below HR.out HB.out) k hlt'
          cases e
          have hd : cls.drop k = rdL cls k :: cls.drop (k + 1) := by rw [List.drop_eq_getElem_cons hlt']; simp [rdL, hlt']
          have HI2 := Aside0.mk (show r1 = (rdL cls k :: cls.drop (k + 1)).all fun c => c.any (litT model) by rw [← hd]; exact HI.out)
          have hmem : rdL cls k ∈ cls := List.mem_of_mem_drop (i := k) (by rw [hd]; exact List.mem_cons_self ..)
          have h5 := H4.out _ hmem
          have H5 := Aside0.mk h5.2
          have h6 := h5.1
          clear hd HI hmem h5
          have HLc := Aside0.mk hl
          have HIN := Aside0.mk hin
          have HK := Aside0.mk hk
          clear hl hin hk
          generalize rdL cls k = x at *
          simp only [List.all_cons] at HI2
          go_wp2_with fail
          refine (ContainsFunc_calls A0 c0 x (fun l => soundB vars l = true) 33 _ (litT model) _ ?_ HLc.out (by omega) H5.out (True1_pred (w.heap.size + 1) vars ⟨h1, h2⟩ Am cm model HL.out _ ?_ ?_)).mono ?_
          · exact Kd.C_drewN HIN.out _
          · go_simp
          · exact Kd.C_drewN (Kd.C_below HRM.out HB.out) _
          rintro e w2 ⟨rfl, ⟨m', rfl⟩⟩
          rw [World.drewN_drewN]
          by_cases hany : x.any (litT model) = true
          · have he : r1 = (cls.drop (k + 1)).all fun c => c.any (litT model) := by rw [HI2.out, hany]; rfl
            have HE2 := Aside0.mk he
            clear he HI2
            go_wp2
            go_roundg k1
            case measure => omega
            case rel => exact ⟨k + 1, by have := HK.out; omega, by go_num, HE2, ⟨_, rfl⟩⟩
          · have hany' : x.any (litT model) = false := by simpa using hany
            clear hany
            have he : r1 = false := by rw [HI2.out, hany']; rfl
            have HE2 := Aside0.mk he
            clear he HI2
            go_wp2
            go_ret2
            exact ⟨by rw [HE2.out, E2.out]; rfl, pw_below_drewN HB.out _⟩
    · have e1 : r1 = false := by rw [HR1.out, trueF, if_neg (fun h => hlen h.2)]
      have e2 : r2 = 150 := by rw [HR2.out, trueF, if_neg (fun h => hlen h.2)]
      have E1 := Aside0.mk e1
      have E2 := Aside0.mk e2
      rw [hz]
      have hne : ((model.length : Int) != vars + 1) = true := by simpa using hlen
      clear e1 e2 HR1 HR2 hz hlen
      go_wp2
      go_ret2
      exact ⟨by rw [E1.out, E2.out]; rfl, HB.out⟩
  · have e1 : r1 = false := by rw [HR1.out, trueF, if_neg (fun h => by rw [hz] at h; exact absurd h.1 (by decide))]
    have e2 : r2 = 150 := by rw [HR2.out, trueF, if_neg (fun h => by rw [hz] at h; exact absurd h.1 (by decide))]
    have E1 := Aside0.mk e1
    have E2 := Aside0.mk e2
    rw [hz]
    clear e1 e2 HR1 HR2 hz
    go_wp2
    go_ret2
    exact ⟨by rw [E1.out, E2.out]; rfl, HB.out⟩
end Go.Proofs.YtifhiloeghmfiaaDoor.Cnf

/- The state of the spreading of literals (cnf): what memory holds of it; (*spread).take. -/
namespace Go.Proofs.YtifhiloeghmfiaaDoor.Cnf
open Go.RowKit Go.Proofs.YtifhiloeghmfiaaDoorW.PrintWords Go.Proofs.YtifhiloeghmfiaaDoorW.PrintLast Go.Proofs.YtifhiloeghmfiaaDoorW.PrintMore

theorem info3 : (Tryd.prog.info? 3).map (fun i => (i.zero, i.size, i.bytes)) = some (some (.int .i64 0), 1, 8) := by kernel_rfl

/-- 'append' onto a row of the call's own that may begin inside its block, as the walk meets it. -/
theorem wpList_append_q {P : Program} (w : World) {ops : Array Oper} {rest : List Oper} {o : Oper} {a : Act} {Q : Exit → Act → World → Prop} (hgd : o.guard = none) (s x : Operand) (t : TypeId)
    (ho : o.op = .call { callee := .builtin .append, args := #[s, x], argTypes := #[t, t] })
    (base : Nat) (e : TypeId) (i : TypeInfo) (z : Value) (size bytes : Nat) (ht : P.underlying t = some (.slice e)) (hi : P.info? e = some i) (hz : i.zero = some z)
    (hsize : i.size = size) (hby : i.bytes = bytes) (hzs : z.cells.size = size) (hsz : 0 < size)
    (v : Value) (n : Nat) (xs : List Value) (hs : a.eval s = v) (hown : QRow w base e size v n xs)
    (ad : Addr) (m c : Nat) (news : List Value) (hx : a.eval x = .slice (some ad) m c) (hl : news.length = m * size) (hnews : ∀ j u, news[j]? = some u → w.cell? (ad.add j) = some u) (h1 : ∀ u ∈ news, u.oneCell' = true)
    (hm : 0 < m) (h63 : n + m ≤ maxLen) (hbytes : (n + m) * bytes ≤ 140737488355328) (hbase : base ≤ w.heap.size)
    (h : ∀ v' w', QRow w' base e size v' (n + m) (xs ++ news) → w.grownBy w' v.ownBlock → (v'.ownBlock = v.ownBlock ∨ ∃ b, v'.ownBlock = some b ∧ w.heap.size ≤ b) → wpList P ops Q rest (a.put o.dst v') w') : wpList P ops Q (o :: rest) a w := by
  refine wpList_plain hgd fun _ hK => ?_
  obtain ⟨v', w', hr, h2, h3, h4⟩ := q_append (P := P) w base t o.type e i z size bytes ht hi hz hsize hby hzs hsz v n xs hown ad m c news hl hnews h1 hm h63 hbytes hbase
  unfold Oper.wp execOp
  simp only [ho, resolve, invoke, builtin, Sem.run_bind, Sem.run_pure, Result.andThen_ok, List.map_toArray, List.map_cons, List.map_nil, hs, hx, hr]
  exact hK _ _ (h v' w' h2 h3 h4)

/-- The same as a step of a region that draws its order. -/
theorem append_q_at {P : Program} (w : World) {ops : Array Oper} {oi : Oper} {N : Option Tmp} {a : Act} {K : Act → World → Prop} {Q : Exit → Act → World → Prop} (hw : Region.wanted oi (yielded ops a.tmps) = true) (hN : oi.dst = N) (s x : Operand) (t : TypeId)
    (ho : oi.op = .call { callee := .builtin .append, args := #[s, x], argTypes := #[t, t] })
    (base : Nat) (e : TypeId) (i : TypeInfo) (z : Value) (size bytes : Nat) (ht : P.underlying t = some (.slice e)) (hi : P.info? e = some i) (hz : i.zero = some z)
    (hsize : i.size = size) (hby : i.bytes = bytes) (hzs : z.cells.size = size) (hsz : 0 < size)
    (v : Value) (n : Nat) (xs : List Value) (hs : a.eval s = v) (hown : QRow w base e size v n xs)
    (ad : Addr) (m c : Nat) (news : List Value) (hx : a.eval x = .slice (some ad) m c) (hl : news.length = m * size) (hnews : ∀ j u, news[j]? = some u → w.cell? (ad.add j) = some u) (h1 : ∀ u ∈ news, u.oneCell' = true)
    (hm : 0 < m) (h63 : n + m ≤ maxLen) (hbytes : (n + m) * bytes ≤ 140737488355328) (hbase : base ≤ w.heap.size)
    (h : ∀ v' w', QRow w' base e size v' (n + m) (xs ++ news) → w.grownBy w' v.ownBlock → (v'.ownBlock = v.ownBlock ∨ ∃ b, v'.ownBlock = some b ∧ w.heap.size ≤ b) → K (a.put N v') w') :
    if Region.wanted oi (yielded ops a.tmps) = true then Oper.wp P oi a w K Q else K (a.put N undef) w := by
  rw [if_pos hw]
  subst hN
  obtain ⟨v', w', hr, h2, h3, h4⟩ := q_append (P := P) w base t oi.type e i z size bytes ht hi hz hsize hby hzs hsz v n xs hown ad m c news hl hnews h1 hm h63 hbytes hbase
  unfold Oper.wp execOp
  simp only [ho, resolve, invoke, builtin, Sem.run_bind, Sem.run_pure, Result.andThen_ok, List.map_toArray, List.map_cons, List.map_nil, hs, hx, hr]
  exact h v' w' h2 h3 h4

/-- A region that draws, all but its last operations still: the world spelled as the walk spells it. -/
theorem region_tail {P : Program} {id : Nat} {Q : Exit → Act → World → Prop} {a : Act} {w : World} {l : List Oper} (n : Nat) (hm : P.follows .mixedOrders = true) (hB : Region.lexTailB .any l.toArray n = true)
    (h : wpStill P l.toArray w.drew (fun a' => wpList P l.toArray Q (l.drop n) a' w.drew) (l.take n) a) : (Code.region id l.toArray true).wp P Q a w := wp_region_still_tail n hm hB h

theorem cell_new1 (W : World) (x : Value) (t : TypeId) (n : Nat) (hn : n = W.heap.size) : ∀ j u, [x][j]? = some u → (W.alloc (.cells #[x] t)).cell? ((⟨n, 0, none⟩ : Addr).add j) = some u := by
  subst hn
  exact cell_one_new W x t

def nilS : Value := .slice none 0 0

/-- What memory holds of a spread: struct block g, values' block bv, map's block m; the queue's row lies from Bq on. -/
structure Spr (w0 : World) (Bq g bv m : Nat) (Ac : Option Addr) (cc : Nat) (cls : List (List Int)) (atf : Int → List Int) (L : List (Int × Value)) (w : World) (val q : List Int) : Prop where
  below : Below w0.heap.size w0 w
  bq : Bq ≤ w.heap.size
  lo : w0.heap.size ≤ g ∧ w0.heap.size ≤ bv ∧ w0.heap.size ≤ m ∧ g < Bq ∧ bv < Bq ∧ m < Bq
  st : ∃ qv, w.heap[g]? = some (.cells #[.slice Ac cls.length cc, .map (some m), .slice (some ⟨bv, 0, none⟩) val.length val.length, qv] 56 (0, 0)) ∧ QRow w Bq 3 1 qv q.length (nums .i64 q)
  va : w.heap[bv]? = some (.cells (nums .i8 val).toArray 57 (0, 0))
  mp : MapL.Is (Value.int .i64) w m L ∧ ∀ l, QRow w w0.heap.size 3 1 ((MapL.look l L).getD nilS) (atf l).length (nums .i64 (atf l)) ∧ ∀ k, ((MapL.look l L).getD nilS).ownBlock = some k → k < Bq

section
variable {w0 : World} {Bq g bv m : Nat} {Ac : Option Addr} {cc : Nat} {cls : List (List Int)} {atf : Int → List Int} {L : List (Int × Value)} {w : World} {val q : List Int}

theorem Spr.drewN (h : Spr w0 Bq g bv m Ac cc cls atf L w val q) (n : Nat) : Spr w0 Bq g bv m Ac cc cls atf L (w.drewN n) val q :=
  ⟨pw_below_drewN h.below n, h.bq, h.lo, h.st, h.va, h.mp⟩
theorem Spr.drew (h : Spr w0 Bq g bv m Ac cc cls atf L w val q) : Spr w0 Bq g bv m Ac cc cls atf L w.drew val q := h.drewN 1

theorem typed_ne {w : World} {base n size : Nat} {e t : TypeId} {v : Value} {xs : List Value} (h : QRow w base e size v n xs) {b : Nat} {cs : Array Value} (hb : w.heap[b]? = some (.cells cs t (0, 0))) (ht : e ≠ t) : ∀ k, v.ownBlock = some k → k ≠ b := by
  rintro k hk rfl
  obtain ⟨_, cells, hc⟩ := q_typed h k hk
  rw [hc] at hb
  injection hb with hb
  injection hb with _ hb
  exact ht hb

theorem map_ne {w : World} {m : Nat} {L : List (Int × Value)} (h : MapL.Is (Value.int .i64) w m L) {b : Nat} {cs : Array Value} {t : TypeId} {fz : Nat × Nat} (hb : w.heap[b]? = some (.cells cs t fz)) : m ≠ b := by
  rintro rfl
  obtain ⟨es, clock, hm, _⟩ := h
  rw [hm] at hb
  cases hb

theorem Spr.ne (h : Spr w0 Bq g bv m Ac cc cls atf L w val q) : g ≠ bv := by
  obtain ⟨qv, hst, hq⟩ := h.st
  rintro rfl
  have := hst.symm.trans h.va
  simp at this

/-- A value is stored. -/
theorem Spr.setVal (h : Spr w0 Bq g bv m Ac cc cls atf L w val q) (i : Nat) (s : Int) : Spr w0 Bq g bv m Ac cc cls atf L (w.setCell ⟨bv, i, none⟩ (.int .i8 s)) (val.set i s) q := by
  obtain ⟨qv, hst, hq⟩ := h.st
  obtain ⟨hm, hL⟩ := h.mp
  have hgb : g ≠ bv := by
    rintro rfl
    have := hst.symm.trans h.va
    simp at this
  refine ⟨h.below.setCell h.lo.2.1 _, by rw [show (w.setCell ⟨bv, i, none⟩ (.int .i8 s)).heap.size = w.heap.size by simp [World.setCell]]; exact h.bq, h.lo, ⟨qv, ?_, ?_⟩, ?_, ⟨?_, fun l => ⟨?_, (hL l).2⟩⟩⟩
  · rw [Below.heap_setCell _ _ _ _ hgb, List.length_set]; exact hst
  · exact q_move hq (fun k hk => Below.heap_setCell _ _ _ _ (typed_ne hq h.va (by decide) k hk))
  · have := blk_set h.va i (.int .i8 s)
    rw [this]
    simp [nums, List.map_set]
  · exact hm.same (Below.heap_setCell _ _ _ _ (map_ne hm h.va))
  · exact q_move (hL l).1 (fun k hk => Below.heap_setCell _ _ _ _ (typed_ne (hL l).1 h.va (by decide) k hk))

theorem Spr.cells (h : Spr w0 Bq g bv m Ac cc cls atf L w val q) : ∃ qv, w.cell? ⟨g, 0, none⟩ = some (.slice Ac cls.length cc) ∧ w.cell? ⟨g, 1, none⟩ = some (.map (some m)) ∧ w.cell? ⟨g, 2, none⟩ = some (.slice (some ⟨bv, 0, none⟩) val.length val.length) ∧
    w.cell? ⟨g, 3, none⟩ = some qv ∧ w.frozen? ⟨g, 3, none⟩ = false ∧ QRow w Bq 3 1 qv q.length (nums .i64 q) := by
  obtain ⟨qv, hst, hq⟩ := h.st
  refine ⟨qv, ?_, ?_, ?_, ?_, blk_frozen hst 3, hq⟩ <;> (rw [blk_cell hst]; rfl)
theorem Spr.queue (h : Spr w0 Bq g bv m Ac cc cls atf L w val q) {qv : Value} (hc : w.cell? ⟨g, 3, none⟩ = some qv) : QRow w Bq 3 1 qv q.length (nums .i64 q) ∧ some g ≠ qv.ownBlock := by
  obtain ⟨qv', hst, hq⟩ := h.st
  rw [blk_cell hst] at hc
  have e : qv' = qv := by simpa using hc
  subst e
  exact ⟨hq, fun e => typed_ne hq hst (by decide) g e.symm rfl⟩

/-- Behind the append, ahead of the store into the field. -/
theorem Spr.push_cell (h : Spr w0 Bq g bv m Ac cc cls atf L w val q) {qv : Value} (hc : w.cell? ⟨g, 3, none⟩ = some qv) (o : Obj) {w1 : World} (hg : (w.alloc o).grownBy w1 qv.ownBlock) :
    w1.cell? ⟨g, 3, none⟩ = some qv ∧ w1.frozen? ⟨g, 3, none⟩ = false := by
  have hne := (h.queue hc).2
  obtain ⟨qv', hst, hq⟩ := h.st
  have h1 := blk_grown (blk_alloc hst o) hg hne
  rw [blk_cell hst] at hc
  exact ⟨by rw [blk_cell h1]; exact hc, blk_frozen h1 3⟩

/-- A literal more in the queue. -/
theorem Spr.pushed (h : Spr w0 Bq g bv m Ac cc cls atf L w val q) {qv : Value} (hc : w.cell? ⟨g, 3, none⟩ = some qv) (o : Obj) {w1 : World} {v' : Value} (l : Int) (hg : (w.alloc o).grownBy w1 qv.ownBlock)
    (hq' : QRow w1 Bq 3 1 v' (q.length + 1) (nums .i64 q ++ [.int .i64 l])) : Spr w0 Bq g bv m Ac cc cls atf L (w1.setCell ⟨g, 3, none⟩ v') val (q ++ [l]) := by
  obtain ⟨hq0, hne⟩ := h.queue hc
  have hlow : ∀ k, qv.ownBlock = some k → Bq ≤ k := fun k hk => (q_typed hq0 k hk).1
  obtain ⟨qv', hst, hq⟩ := h.st
  obtain ⟨hm, hL⟩ := h.mp
  have h1 := blk_grown (blk_alloc hst o) hg hne
  have hneb : some bv ≠ qv.ownBlock := fun e => typed_ne hq0 h.va (by decide) bv e.symm rfl
  have hnem : some m ≠ qv.ownBlock := fun e => by have := hlow m e.symm; have := h.lo; omega
  have hva := blk_grown (blk_alloc h.va o) hg hneb
  have hmm := hm.lt
  have hm1 : MapL.Is (Value.int .i64) w1 m L := (hm.alloc o).same (hg.block m (by simp; omega) hnem)
  have hbq := h.bq
  have hsz : w.heap.size + 1 ≤ w1.heap.size := by have := hg.size; simpa using this
  have hll := h.lo
  refine ⟨?_, ?_, h.lo, ⟨v', ?_, ?_⟩, ?_, ⟨?_, fun l => ⟨?_, (hL l).2⟩⟩⟩
  · refine Below.setCell ?_ h.lo.1 _
    exact (h.below.alloc h.below.size o).grown hg (by simp; have := h.below.size; omega) (fun k hk => by have := hlow k hk; omega)
  · simp only [World.setCell, Array.size_modify]; omega
  · rw [blk_set h1 3 v']; simp
  · have e : nums .i64 (q ++ [l]) = nums .i64 q ++ [.int .i64 l] := by simp [nums]
    rw [e, List.length_append]
    exact q_move hq' (fun k hk => Below.heap_setCell _ _ _ _ (typed_ne hq' h1 (by decide) k hk))
  · rw [Below.heap_setCell _ _ _ _ (show bv ≠ g from h.ne.symm)]; exact hva
  · exact hm1.same (Below.heap_setCell _ _ _ _ (map_ne hm1 h1))
  · refine q_move (hL l).1 (fun k hk => ?_)
    have hk1 := (hL l).2 k hk
    have hk2 := typed_ne (hL l).1 hst (by decide) k hk
    have hk3 := q_lt (hL l).1 k hk
    rw [Below.heap_setCell _ _ _ _ hk2, hg.block k (by simp; omega) (fun e => by have := hlow k e.symm; omega)]
    exact Below.heap_alloc _ _ _ hk3

theorem Spr.val_cell (h : Spr w0 Bq g bv m Ac cc cls atf L w val q) (i : Nat) (hi : i < val.length) : w.cell? ⟨bv, i, none⟩ = some (.int .i8 (rd val i)) ∧ w.frozen? ⟨bv, i, none⟩ = false := by
  refine ⟨?_, blk_frozen h.va i⟩
  rw [blk_cell h.va]
  simp [nums, rd, hi]
end
end Go.Proofs.YtifhiloeghmfiaaDoor.Cnf

/- (*spread).take. -/
namespace Go.Proofs.YtifhiloeghmfiaaDoor.Cnf
open Go.RowKit Go.Proofs.YtifhiloeghmfiaaDoorW.PrintWords Go.Proofs.YtifhiloeghmfiaaDoorW.PrintLast Go.Proofs.YtifhiloeghmfiaaDoorW.PrintMore

def sgn (l : Int) : Int := if l < 0 then -1 else 1
/-- What take does: the answer, the values, the queue. -/
def takeF (val q : List Int) (l : Int) : Bool × List Int × List Int :=
  if rd val (absI l) = sgn l then (true, val, q) else if rd val (absI l) = -sgn l then (false, val, q) else (true, val.set (absI l).toNat (sgn l), q ++ [l])

section
variable {w0 : World} {Bq g bv m : Nat} {Ac : Option Addr} {cc : Nat} {cls : List (List Int)} {atf : Int → List Int} {L : List (Int × Value)} {w : World} {val q : List Int}

set_option maxRecDepth 100000 in
set_option maxHeartbeats 1000000 in
theorem take_calls (l : Int) (h : Spr w0 Bq g bv m Ac cc cls atf L w val q) (hl : -4096 ≤ l ∧ l ≤ 4096) (hlt : absI l < (val.length : Int)) (hq : q.length ≤ 100000) :
    Calls Tryd.prog 29 #[.pointer (some ⟨g, 0, none⟩), .int .i64 l] w fun e w' => e = .returned (.bool (takeF val q l).1) ∧ Spr w0 Bq g bv m Ac cc cls atf L w' (takeF val q l).2.1 (takeF val q l).2.2 := by
  obtain ⟨r, hr⟩ : ∃ r, r = takeF val q l := ⟨_, rfl⟩
  rw [← hr]
  have HR := Aside0.mk hr
  have HS := Aside0.mk h
  obtain ⟨qv, c0, c1, c2, c3, f3, hqv⟩ := h.cells
  have HQ := Aside0.mk hqv
  have hgb := h.ne
  have hbg := hgb.symm
  obtain ⟨hl1, hl2⟩ := hl
  have habs : 0 ≤ absI l ∧ absI l ≤ 4096 := by unfold absI; split <;> omega
  obtain ⟨ha0, ha1⟩ := habs
  obtain ⟨cv, fv⟩ := h.val_cell (absI l).toNat (by omega)
  have hrd : rd val ((absI l).toNat : Int) = rd val (absI l) := by rw [Int.toNat_of_nonneg ha0]
  rw [hrd] at cv
  clear hr h hqv hrd
  have cv' : w.cell? ((⟨bv, 0, none⟩ : Addr).add (absI l).toNat) = some (.int .i8 (rd val (absI l))) := by rw [add_at]; simpa using cv
  unfold takeF at HR
  have key : ∀ s : Int, s = sgn l → (l < 0 ∧ s = -1 ∨ 0 ≤ l ∧ s = 1) := fun s e => by subst e; unfold sgn; split <;> omega
  obtain ⟨s, hs⟩ : ∃ s, s = sgn l := ⟨_, rfl⟩
  have hk := key s hs
  rw [← hs] at HR
  clear key hs
  generalize rd val (absI l) = v at *
  obtain ⟨i0, hi, hz0, hz1, hz2⟩ := info_parts info3
  rcases hk with ⟨hneg, rfl⟩ | ⟨hpos, rfl⟩
  · by_cases h1 : v = -1
    · subst h1
      have HE := Aside0.mk (show r = (true, val, q) by rw [HR.out, if_pos rfl])
      clear HR
      go_enter Tryd.func29, Tryd.ntmps29
      go_wp2
      go_quiet ((go_at_call 34; exact Calls.quiet_of_same (abs_quiet l (by omega) _)))
      go_wp2
      go_ret
      exact ⟨by rw [HE.out]; rfl, by rw [HE.out]; exact HS.out.drewN _⟩
    · by_cases h2 : v = 1
      · subst h2
        have HE := Aside0.mk (show r = (false, val, q) by rw [HR.out, if_neg (by decide), if_pos (by decide)])
        clear HR h1
        go_enter Tryd.func29, Tryd.ntmps29
        go_wp2
        go_quiet ((go_at_call 34; exact Calls.quiet_of_same (abs_quiet l (by omega) _)))
        go_wp2
        go_ret
        exact ⟨by rw [HE.out]; rfl, by rw [HE.out]; exact HS.out.drewN _⟩
      · have HE := Aside0.mk (show r = (true, val.set (absI l).toNat (-1), q ++ [l]) by rw [HR.out, if_neg h1, if_neg (by omega)])
        have n1 : (v == -1) = false := beq_eq_false_iff_ne.mpr h1
        have n2 : (v == 1) = false := beq_eq_false_iff_ne.mpr h2
        clear HR h1 h2
        go_enter Tryd.func29, Tryd.ntmps29
        go_wp2
        go_quiet ((go_at_call 34; exact Calls.quiet_of_same (abs_quiet l (by omega) _)))
        go_wp2
        refine region_tail 8 (by kernel_rfl) (by kernel_rfl) ?_
        simp only [List.take_succ_cons, List.take_zero, List.drop_succ_cons, List.drop_zero]
        iterate 5 still_step
        still_call (abs_quiet l (by omega) _)
        iterate 2 still_step
        refine wpStill_nil ?_
        go_wp2_with (at_builtin; refine Hid.out ?_)
        refine Lib.hid ?_
        refine wpList_append_q _ rfl _ _ 25 rfl Bq 3 i0 (.int .i64 0) 1 8 Tryd.underlying25 hi hz0 hz1 hz2 rfl (by decide) qv q.length (nums .i64 q) rfl ?_ ⟨_, 0, none⟩ 1 1 [.int .i64 l] rfl rfl (cell_new1 _ _ _ _ (by simp [World.setCell])) (by simp [Value.oneCell']) (by decide) (by simp only [maxLen]; omega) (by omega) ?_ ?_
        · refine q_move HQ.out (fun k hk => ?_)
          rw [Below.heap_alloc _ _ _ (by simp [World.setCell]; exact q_lt HQ.out k hk), Below.heap_setCell _ _ _ _ (typed_ne HQ.out HS.out.va (by decide) k hk)]
          rfl
        · simp [World.setCell]; have := HS.out.bq; omega
        intro v' w1 hq' hg' _
        obtain ⟨A', c', rfl, _⟩ := q_slice hq'
        have hS := (HS.out.drewN (nq + 1)).setVal (absI l).toNat (-1)
        have hcc : ((w.drewN (nq + 1)).setCell { block := bv, off := (absI l).toNat } (Value.int IntKind.i8 (-1))).cell? ⟨g, 3, none⟩ = some qv := by go_simp
        obtain ⟨k1, k2⟩ := hS.push_cell hcc _ hg'
        have hfin := Aside0.mk (hS.pushed hcc _ l hg' hq')
        clear hq' hg' hcc hS
        go_wp2
        go_ret
        exact ⟨by rw [HE.out]; rfl, by rw [HE.out]; exact hfin.out⟩
  · by_cases h1 : v = 1
    · subst h1
      have HE := Aside0.mk (show r = (true, val, q) by rw [HR.out, if_pos rfl])
      clear HR
      go_enter Tryd.func29, Tryd.ntmps29
      go_wp2
      go_quiet ((go_at_call 34; exact Calls.quiet_of_same (abs_quiet l (by omega) _)))
      go_wp2
      go_ret
      exact ⟨by rw [HE.out]; rfl, by rw [HE.out]; exact HS.out.drewN _⟩
    · by_cases h2 : v = -1
      · subst h2
        have HE := Aside0.mk (show r = (false, val, q) by rw [HR.out, if_neg (by decide), if_pos (by decide)])
        clear HR h1
        go_enter Tryd.func29, Tryd.ntmps29
        go_wp2
        go_quiet ((go_at_call 34; exact Calls.quiet_of_same (abs_quiet l (by omega) _)))
        go_wp2
        go_ret
        exact ⟨by rw [HE.out]; rfl, by rw [HE.out]; exact HS.out.drewN _⟩
      · have HE := Aside0.mk (show r = (true, val.set (absI l).toNat (1), q ++ [l]) by rw [HR.out, if_neg h1, if_neg (by omega)])
        have n1 : (v == 1) = false := beq_eq_false_iff_ne.mpr h1
        have n2 : (v == -1) = false := beq_eq_false_iff_ne.mpr h2
        clear HR h1 h2
        go_enter Tryd.func29, Tryd.ntmps29
        go_wp2
        go_quiet ((go_at_call 34; exact Calls.quiet_of_same (abs_quiet l (by omega) _)))
        go_wp2
        refine region_tail 8 (by kernel_rfl) (by kernel_rfl) ?_
        simp only [List.take_succ_cons, List.take_zero, List.drop_succ_cons, List.drop_zero]
        iterate 5 still_step
        still_call (abs_quiet l (by omega) _)
        iterate 2 still_step
        refine wpStill_nil ?_
        go_wp2_with (at_builtin; refine Hid.out ?_)
        refine Lib.hid ?_
        refine wpList_append_q _ rfl _ _ 25 rfl Bq 3 i0 (.int .i64 0) 1 8 Tryd.underlying25 hi hz0 hz1 hz2 rfl (by decide) qv q.length (nums .i64 q) rfl ?_ ⟨_, 0, none⟩ 1 1 [.int .i64 l] rfl rfl (cell_new1 _ _ _ _ (by simp [World.setCell])) (by simp [Value.oneCell']) (by decide) (by simp only [maxLen]; omega) (by omega) ?_ ?_
        · refine q_move HQ.out (fun k hk => ?_)
          rw [Below.heap_alloc _ _ _ (by simp [World.setCell]; exact q_lt HQ.out k hk), Below.heap_setCell _ _ _ _ (typed_ne HQ.out HS.out.va (by decide) k hk)]
          rfl
        · simp [World.setCell]; have := HS.out.bq; omega
        intro v' w1 hq' hg' _
        obtain ⟨A', c', rfl, _⟩ := q_slice hq'
        have hS := (HS.out.drewN (nq + 1)).setVal (absI l).toNat 1
        have hcc : ((w.drewN (nq + 1)).setCell { block := bv, off := (absI l).toNat } (Value.int IntKind.i8 1)).cell? ⟨g, 3, none⟩ = some qv := by go_simp
        obtain ⟨k1, k2⟩ := hS.push_cell hcc _ hg'
        have hfin := Aside0.mk (hS.pushed hcc _ l hg' hq')
        clear hq' hg' hcc hS
        go_wp2
        go_ret
        exact ⟨by rw [HE.out]; rfl, by rw [HE.out]; exact hfin.out⟩
end
end Go.Proofs.YtifhiloeghmfiaaDoor.Cnf

/- (*spread).look. -/
namespace Go.Proofs.YtifhiloeghmfiaaDoor.Cnf
open Go.RowKit Go.Proofs.YtifhiloeghmfiaaDoorW.PrintWords Go.Proofs.YtifhiloeghmfiaaDoorW.PrintLast Go.Proofs.YtifhiloeghmfiaaDoorW.PrintMore

/-- Is a literal's negative among the values? -/
def offB (val : List Int) (l : Int) : Bool := (rd val (absI l) != 0) && (decide (0 < rd val (absI l)) != decide (0 < l))
/-- The one literal that is left of a clause; none: there are two. -/
def leftF (val : List Int) : List Int → Int → Option Int
  | [], left => some left
  | l :: r, left => bif offB val l || l == left then leftF val r left else bif left != 0 then none else leftF val r l
def endF (val q : List Int) : Option Int → Bool × List Int × List Int
  | none => (true, val, q)
  | some left => bif left != 0 then takeF val q left else (false, val, q)
def lookF (val q : List Int) (c : List Int) : Bool × List Int × List Int := endF val q (leftF val c 0)

theorem leftF_mem (val : List Int) : ∀ (c : List Int) (left l : Int), leftF val c left = some l → l = left ∨ l ∈ c
  | [], left, l, h => by simp [leftF] at h; exact .inl h.symm
  | x :: r, left, l, h => by
    unfold leftF at h
    cases hb : (offB val x || x == left) with
    | true =>
      rw [hb] at h
      rcases leftF_mem val r left l h with h | h
      · exact .inl h
      · exact .inr (List.mem_cons_of_mem _ h)
    | false =>
      rw [hb] at h
      cases hz : (left != 0) with
      | true => rw [hz] at h; cases h
      | false =>
        rw [hz] at h
        rcases leftF_mem val r x l h with h | h
        · exact .inr (by rw [h]; exact List.mem_cons_self ..)
        · exact .inr (List.mem_cons_of_mem _ h)

section
variable {w0 : World} {Bq g bv m : Nat} {Ac : Option Addr} {cc : Nat} {cls : List (List Int)} {atf : Int → List Int} {L : List (Int × Value)} {w : World} {val q : List Int}

set_option maxRecDepth 100000 in
set_option maxHeartbeats 2000000 in
theorem look_calls (A0 : Option Addr) (c0 : Nat) (c : List Int) (h : Spr w0 Bq g bv m Ac cc cls atf L w val q) (hr : Kd.C (Kd.int .i64) w0 A0 c.length c) (hc : c.length ≤ c0) (hlen : c.length ≤ 128)
    (hl : ∀ l, l ∈ c → -4096 ≤ l ∧ l ≤ 4096 ∧ absI l < (val.length : Int)) (hq : q.length ≤ 100000) :
    Calls Tryd.prog 46 #[.pointer (some ⟨g, 0, none⟩), .slice A0 c.length c0] w fun e w' => e = .returned (.bool (lookF val q c).1) ∧ Spr w0 Bq g bv m Ac cc cls atf L w' (lookF val q c).2.1 (lookF val q c).2.2 := by
  obtain ⟨r, hres⟩ : ∃ r, r = lookF val q c := ⟨_, rfl⟩
  rw [← hres]
  have HS := Aside0.mk h
  have HR0 := Aside0.mk hr
  have HL := Aside0.mk hl
  obtain ⟨o, ho⟩ : ∃ o, o = leftF val c 0 := ⟨_, rfl⟩
  have HRES := Aside0.mk (show r = endF val q o by rw [hres, lookF, ho])
  have HO := Aside0.mk ho
  clear h hr hres ho hl
  go_enter Tryd.func46, Tryd.ntmps46
  go_wp2
  go_loopg [5, 7, 8, 11] c.length (fun kq v5 v7 v8 v11 w2 => ∃ (k : Nat) (left : Int), k + kq = c.length ∧ v5 = .int .i64 left ∧ v11 = .int .i64 k ∧ Aside0 (o = leftF val (c.drop k) left) ∧ Aside0 (left = 0 ∨ left ∈ c) ∧ Aside0 (Spr w0 Bq g bv m Ac cc cls atf L w2 val q))
  case atStart => exact ⟨0, 0, by simp, rfl, rfl, HO, ⟨.inl rfl⟩, HS⟩
  case round =>
    clear HS
    obtain ⟨k, left, hk, rfl, rfl, HI, HM, HS⟩ := hrel
    have HR := Aside0.mk (Kd.C_below HR0.out HS.out.below)
    obtain ⟨qv, c0', c1, c2, c3, f3, hqv⟩ := HS.out.cells
    clear hqv
    cases gk with
    | zero =>
      have hge : ¬ ((k : Int) < (c.length : Int)) := by omega
      have he : o = some left := by rw [HI.out, List.drop_of_length_le (by omega)]; rfl
      subst he
      by_cases hz : left = 0
      · subst hz
        have HE := Aside0.mk (show r = (false, val, q) from HRES.out)
        clear HRES
        go_wp2
        go_ret
        exact ⟨by rw [HE.out]; rfl, by rw [HE.out]; exact HS.out⟩
      · have hne : (left != 0) = true := by simpa using hz
        have HE := Aside0.mk (show r = takeF val q left by rw [HRES.out]; simp only [endF, hne, cond_true])
        have hmem : left ∈ c := HM.out.resolve_left hz
        obtain ⟨b1, b2, b3⟩ := HL.out left hmem
        clear hmem hz HRES
        go_wp2_with fail
        refine (take_calls left (HS.out) ⟨b1, b2⟩ b3 hq).mono ?_
        rintro e w3 ⟨rfl, hs3⟩
        rw [← HE.out] at hs3 ⊢
        have HS3 := Aside0.mk hs3
        clear hs3
        obtain ⟨r1, r2⟩ := r
        cases r1
        · go_wp2
          go_ret
          exact ⟨rfl, HS3.out⟩
        · go_wp2
          go_ret
          exact ⟨rfl, HS3.out⟩
    | succ k1 =>
      have hlt : (k : Int) < (c.length : Int) := by omega
      have hlt' : k < c.length := by omega
      obtain ⟨ad, e, hx⟩ := Kd.at_int HR.out k (by omega) hlt
      cases e
      rw [Int.toNat_natCast] at hx
      have hd : c.drop k = c[k] :: c.drop (k + 1) := List.drop_eq_getElem_cons hlt'
      have hrd : rd c k = c[k] := by simp [rd, hlt']
      have hmem : rd c k ∈ c := by rw [hrd]; exact List.getElem_mem _
      have HI2 := Aside0.mk (show o = leftF val (rd c k :: c.drop (k + 1)) left by rw [hrd, ← hd]; exact HI.out)
      obtain ⟨b1, b2, b3⟩ := HL.out _ hmem
      have HMEM := Aside0.mk hmem
      clear hd hrd HI hmem
      have HK := Aside0.mk hk
      clear hk
      generalize rd c k = x at *
      have ha0 : 0 ≤ absI x := by unfold absI; split <;> omega
      have hcv := (HS.out.val_cell (absI x).toNat (by omega)).1
      rw [show rd val ((absI x).toNat : Int) = rd val (absI x) by rw [Int.toNat_of_nonneg ha0]] at hcv
      have hI3 := HI2.out
      simp only [leftF] at hI3
      have hob : offB val x = (rd val (absI x) != 0 && (decide (0 < rd val (absI x)) != decide (0 < x))) := rfl
      clear HI2
      generalize rd val (absI x) = v at *
      generalize offB val x = ob at *
      have arm : ((ob || x == left) = true ∧ o = leftF val (c.drop (k + 1)) left) ∨ ((ob || x == left) = false ∧ left ≠ 0 ∧ o = none) ∨ ((ob || x == left) = false ∧ left = 0 ∧ o = leftF val (c.drop (k + 1)) x) := by
        cases hb : (ob || x == left) with
        | true => rw [hb] at hI3; exact .inl ⟨rfl, hI3⟩
        | false =>
          rw [hb] at hI3
          by_cases hz : left = 0
          · exact .inr (.inr ⟨rfl, hz, by rw [hI3, hz]; rfl⟩)
          · exact .inr (.inl ⟨rfl, hz, by rw [hI3, show (left != 0) = true by simpa using hz]; rfl⟩)
      clear hI3
      have OB := Aside0.mk hob
      clear hob
      have ARM := Aside0.mk arm
      clear arm
      go_wp2
      go_quiet ((go_at_call 34; exact Calls.quiet_of_same (abs_quiet x (by omega) _)))
      go_wp2_with fail
      all_goals rcases ARM.out with ⟨hb, ho⟩ | ⟨hb, hz, ho⟩ | ⟨hb, hz, ho⟩
      all_goals first
        | (exfalso; rw [OB.out] at hb; revert hb; simp [*]; done)
        | (go_roundg k1; (case measure => omega); (case rel => exact ⟨k + 1, left, by have := HK.out; omega, rfl, by go_num, ⟨ho⟩, HM, ⟨HS.out.drewN _⟩⟩))
        | (go_roundg k1; (case measure => omega); (case rel => exact ⟨k + 1, x, by have := HK.out; omega, rfl, by go_num, ⟨ho⟩, ⟨.inr HMEM.out⟩, ⟨HS.out.drewN _⟩⟩))
        | (go_ret; exact ⟨by rw [HRES.out, ho]; rfl, by rw [HRES.out, ho]; exact HS.out.drewN _⟩)
        | (exfalso; have hb1 := (Bool.or_eq_false_iff.1 hb).2; rw [(by assumption : (x == left) = true)] at hb1; cases hb1)
        | (exfalso; exact absurd hz (by assumption))
        | (exfalso; exact absurd (by assumption) hz)
        | (exfalso; have hz1 : (left != 0) = true := (by assumption); rw [hz] at hz1; cases hz1)
        | (exfalso; have hz1 : (left != 0) = false := (by assumption); simp at hz1; exact hz hz1)
end
end Go.Proofs.YtifhiloeghmfiaaDoor.Cnf

/- (*spread).run: what it does; sizes. -/
namespace Go.Proofs.YtifhiloeghmfiaaDoor.Cnf
open Go.RowKit Go.Proofs.YtifhiloeghmfiaaDoorW.PrintWords Go.Proofs.YtifhiloeghmfiaaDoorW.PrintLast Go.Proofs.YtifhiloeghmfiaaDoorW.PrintMore

def lookAll (val q : List Int) : List (List Int) → Bool × List Int × List Int
  | [] => (true, val, q)
  | c :: r => bif (lookF val q c).1 then lookAll (lookF val q c).2.1 (lookF val q c).2.2 r else (false, (lookF val q c).2)
def pick (cls : List (List Int)) (is : List Int) : List (List Int) := is.map fun i => rdL cls i.toNat
def runQ (cls : List (List Int)) (atf : Int → List Int) : Nat → List Int → List Int → Option (Bool × List Int)
  | 0, _, _ => none
  | _ + 1, val, [] => some (true, val)
  | k + 1, val, l :: q => bif (lookAll val q (pick cls (atf l))).1 then runQ cls atf k (lookAll val q (pick cls (atf l))).2.1 (lookAll val q (pick cls (atf l))).2.2 else some (false, (lookAll val q (pick cls (atf l))).2.1)
def goQ (cls : List (List Int)) (atf : Int → List Int) (k : Nat) (x : Bool × List Int × List Int) : Option (Bool × List Int) := bif x.1 then runQ cls atf k x.2.1 x.2.2 else some (false, x.2.1)
def runF (cls : List (List Int)) (atf : Int → List Int) (k : Nat) (val q : List Int) : Option (Bool × List Int) := goQ cls atf k (lookAll val q cls)

/-- How many values are not known yet. -/
def zeros (val : List Int) : Nat := (val.filter fun v => v == 0).length
/-- What stays: values of three kinds; a literal in the queue for each that is known. -/
structure Inv (n N : Nat) (val q : List Int) : Prop where
  len : val.length = n
  tri : ∀ v, v ∈ val → v = -1 ∨ v = 0 ∨ v = 1
  room : q.length + zeros val ≤ N

theorem zeros_set : ∀ (val : List Int) (i : Nat) (s : Int), i < val.length → val.getD i 0 = 0 → s ≠ 0 → zeros (val.set i s) + 1 = zeros val
  | [], i, s, h, _, _ => by simp at h
  | v :: r, 0, s, _, h0, hs => by
    have h0' : v = 0 := by simpa using h0
    simp [zeros, h0', hs]
  | v :: r, i + 1, s, h, h0, hs => by
    have ih := zeros_set r i s (by simpa using h) (by simpa using h0) hs
    simp only [zeros, List.set_cons_succ, List.filter_cons] at ih ⊢
    split <;> (try simp only [List.length_cons]) <;> omega

theorem Inv.take {n N : Nat} {val q : List Int} (h : Inv n N val q) (l : Int) (hl : absI l < (n : Int)) (h0 : 0 ≤ absI l) : Inv n N (takeF val q l).2.1 (takeF val q l).2.2 := by
  unfold takeF
  have hs : sgn l = 1 ∨ sgn l = -1 := by unfold sgn; split <;> simp
  by_cases h1 : rd val (absI l) = sgn l
  · rw [if_pos h1]; exact h
  · rw [if_neg h1]
    by_cases h2 : rd val (absI l) = -sgn l
    · rw [if_pos h2]; exact h
    · rw [if_neg h2]
      have hlt : (absI l).toNat < val.length := by have := h.len; omega
      have hmem : rd val (absI l) ∈ val := by
        simp only [rd, List.getD_eq_getElem?_getD, List.getElem?_eq_getElem hlt, Option.getD_some]
        exact List.getElem_mem _
      have hz : rd val (absI l) = 0 := by
        rcases h.tri _ hmem with h3 | h3 | h3
        · exfalso; omega
        · exact h3
        · exfalso; omega
      have hzs := zeros_set val (absI l).toNat (sgn l) hlt hz (by omega)
      refine ⟨by rw [List.length_set]; exact h.len, fun v hv => ?_, ?_⟩
      · rcases List.mem_or_eq_of_mem_set hv with hv | rfl
        · exact h.tri v hv
        · omega
      · have := h.room
        simp only [List.length_append, List.length_cons, List.length_nil]
        omega

theorem Inv.look {n N : Nat} {val q : List Int} (h : Inv n N val q) (c : List Int) (hl : ∀ l, l ∈ c → absI l < (n : Int) ∧ 0 ≤ absI l) : Inv n N (lookF val q c).2.1 (lookF val q c).2.2 := by
  unfold lookF
  cases ho : leftF val c 0 with
  | none => exact h
  | some l =>
    simp only [endF]
    by_cases hz : l = 0
    · subst hz; exact h
    · have hz' : (l != 0) = true := by simpa using hz
      rw [hz']
      have hm := (leftF_mem val c 0 l ho).resolve_left hz
      exact h.take l (hl l hm).1 (hl l hm).2

theorem Inv.looks {n N : Nat} : ∀ (cs : List (List Int)) {val q : List Int}, Inv n N val q → (∀ c, c ∈ cs → ∀ l, l ∈ c → absI l < (n : Int) ∧ 0 ≤ absI l) → Inv n N (lookAll val q cs).2.1 (lookAll val q cs).2.2
  | [], _, _, h, _ => h
  | c :: r, val, q, h, hl => by
    have h1 := h.look c (hl c (List.mem_cons_self ..))
    unfold lookAll
    cases hb : (lookF val q c).1 with
    | true => exact Inv.looks r h1 (fun c hc => hl c (List.mem_cons_of_mem _ hc))
    | false => exact h1

theorem rdL_memG {cls : List (List Int)} {k : Nat} (h : k < cls.length) : rdL cls k ∈ cls := by
  simp only [rdL, List.getD_eq_getElem?_getD, List.getElem?_eq_getElem h, Option.getD_some]
  exact List.getElem_mem _
theorem runQ_inv (cls : List (List Int)) (atf : Int → List Int) (n N : Nat) (hF : ∀ c, c ∈ cls → ∀ l, l ∈ c → absI l < (n : Int) ∧ 0 ≤ absI l) (hat : ∀ l i, i ∈ atf l → 0 ≤ i ∧ i < (cls.length : Int)) :
    ∀ (k : Nat) (val q : List Int) (b : Bool) (val' : List Int), Inv n N val q → runQ cls atf k val q = some (b, val') → ∃ q', Inv n N val' q'
  | 0, _, _, _, _, _, h => by cases h
  | k + 1, val, [], b, val', hI, h => by
    simp only [runQ] at h
    injection h with h
    injection h with h1 h2
    subst h2
    exact ⟨[], hI⟩
  | k + 1, val, l :: q, b, val', hI, h => by
    simp only [runQ] at h
    have hI1 : Inv n N val q := ⟨hI.len, hI.tri, by have := hI.room; simp at this; omega⟩
    have hp : ∀ c, c ∈ pick cls (atf l) → ∀ l, l ∈ c → absI l < (n : Int) ∧ 0 ≤ absI l := fun c hc => by
      obtain ⟨i, hi, rfl⟩ := List.mem_map.1 hc
      have := hat l i hi
      exact hF _ (rdL_memG (by omega))
    have h2 := hI1.looks (pick cls (atf l)) hp
    cases hb : (lookAll val q (pick cls (atf l))).1 with
    | true => rw [hb] at h; exact runQ_inv cls atf n N hF hat k _ _ b val' h2 h
    | false =>
      rw [hb] at h
      injection h with h
      injection h with h3 h4
      subst h4
      exact ⟨_, h2⟩
theorem runF_inv (cls : List (List Int)) (atf : Int → List Int) (n N : Nat) (hF : ∀ c, c ∈ cls → ∀ l, l ∈ c → absI l < (n : Int) ∧ 0 ≤ absI l) (hat : ∀ l i, i ∈ atf l → 0 ≤ i ∧ i < (cls.length : Int))
    (k : Nat) (val q : List Int) (b : Bool) (val' : List Int) (hI : Inv n N val q) (h : runF cls atf k val q = some (b, val')) : ∃ q', Inv n N val' q' := by
  unfold runF goQ at h
  have h2 := hI.looks cls hF
  cases hb : (lookAll val q cls).1 with
  | true => rw [hb] at h; exact runQ_inv cls atf n N hF hat k _ _ b val' h2 h
  | false =>
    rw [hb] at h
    injection h with h
    injection h with h3 h4
    subst h4
    exact ⟨_, h2⟩
end Go.Proofs.YtifhiloeghmfiaaDoor.Cnf

/- (*spread).run: the walk. -/
namespace Go.Proofs.YtifhiloeghmfiaaDoor.Cnf
open Go.RowKit Go.Proofs.YtifhiloeghmfiaaDoorW.PrintWords Go.Proofs.YtifhiloeghmfiaaDoorW.PrintLast Go.Proofs.YtifhiloeghmfiaaDoorW.PrintMore

theorem zero25 (w : World) : (zeroValue 25).run Tryd.prog w = .ok nilS w := by kernel_rfl

/-- Clauses that a spread over n values may look at. -/
def Fine (n : Nat) (c : List Int) : Prop := c.length ≤ 128 ∧ ∀ l, l ∈ c → -4096 ≤ l ∧ l ≤ 4096 ∧ absI l < (n : Int)

theorem absI_nonneg (l : Int) : 0 ≤ absI l := by unfold absI; split <;> omega

theorem runF_len (cls : List (List Int)) (atf : Int → List Int) {n N : Nat} (k : Nat) (val q : List Int) (b : Bool) (val' : List Int) (hI : Inv n N val q) (hF : ∀ c, c ∈ cls → Fine n c) (hat : ∀ l i, i ∈ atf l → 0 ≤ i ∧ i < (cls.length : Int))
    (h : runF cls atf k val q = some (b, val')) : ∃ q', Inv n N val' q' :=
  runF_inv cls atf n N (fun c hc l hl => ⟨((hF c hc).2 l hl).2.2, absI_nonneg l⟩) hat k val q b val' hI h

theorem rdL_mem {cls : List (List Int)} {k : Nat} (h : k < cls.length) : rdL cls k ∈ cls := by
  simp only [rdL, List.getD_eq_getElem?_getD, List.getElem?_eq_getElem h, Option.getD_some]
  exact List.getElem_mem _

section
variable {w0 : World} {Bq g bv m : Nat} {Ac : Option Addr} {cc : Nat} {cls : List (List Int)} {atf : Int → List Int} {L : List (Int × Value)} {w : World} {val q : List Int}

/-- The queue's head, and what is left. -/
theorem Spr.head {l : Int} (h : Spr w0 Bq g bv m Ac cc cls atf L w val (l :: q)) : ∃ gb o c, w.cell? ⟨g, 3, none⟩ = some (.slice (some ⟨gb, o, none⟩) (q.length + 1) c) ∧ q.length + 1 ≤ c ∧ w.cell? ⟨gb, o, none⟩ = some (.int .i64 l) ∧
    (c = 1 → QRow w Bq 3 1 (.slice (some ⟨gb, o, none⟩) q.length (c - 1)) q.length (nums .i64 q)) ∧ (c ≠ 1 → QRow w Bq 3 1 (.slice (some ⟨gb, o + 1, none⟩) q.length (c - 1)) q.length (nums .i64 q)) := by
  obtain ⟨qv, _, _, _, c3, _, hq⟩ := h.cells
  rcases hq.2 with ⟨h0, _⟩ | ⟨gb, off, cap, cur, rfl, hg, hh, hnc, hm, hcs, ht⟩
  · simp at h0
  · obtain ⟨ad, he, hcell⟩ := q_cells hq (by simp)
    injection he with he
    subst he
    have h0 := hcell 0 (.int .i64 l) (by simp [nums])
    have hd := q_drop (k := 1) hq (by simp)
    rw [add_at] at h0
    refine ⟨gb, off * 1, cap, c3, by simpa using hnc, by simpa using h0, fun e => ?_, fun e => ?_⟩
    · rw [if_pos e] at hd
      simpa [nums] using hd
    · rw [if_neg e] at hd
      simpa [nums, add_at] using hd

/-- The queue is another row. -/
theorem Spr.requeue (h : Spr w0 Bq g bv m Ac cc cls atf L w val q) {v' : Value} {q' : List Int} (hq' : QRow w Bq 3 1 v' q'.length (nums .i64 q')) : Spr w0 Bq g bv m Ac cc cls atf L (w.setCell ⟨g, 3, none⟩ v') val q' := by
  obtain ⟨qv', hst, hq⟩ := h.st
  obtain ⟨hm, hL⟩ := h.mp
  refine ⟨h.below.setCell h.lo.1 _, by simp only [World.setCell, Array.size_modify]; exact h.bq, h.lo, ⟨v', by rw [blk_set hst 3 v']; simp, q_move hq' (fun k hk => Below.heap_setCell _ _ _ _ (typed_ne hq' hst (by decide) k hk))⟩, ?_, ⟨?_, fun l => ⟨?_, (hL l).2⟩⟩⟩
  · rw [Below.heap_setCell _ _ _ _ (show bv ≠ g from h.ne.symm)]; exact h.va
  · exact hm.same (Below.heap_setCell _ _ _ _ (map_ne hm hst))
  · exact q_move (hL l).1 (fun k hk => Below.heap_setCell _ _ _ _ (typed_ne (hL l).1 hst (by decide) k hk))

set_option maxRecDepth 100000 in
set_option maxHeartbeats 2000000 in
theorem run_calls (N n : Nat) (K : Nat) (b : Bool) (val' : List Int) (h : Spr w0 Bq g bv m Ac cc cls atf L w val q) (hI : Inv n N val q) (hN : N ≤ 100000)
    (hr : Kd.C KL w0 Ac cls.length cls) (hcl : cls.length ≤ cc) (hlen : cls.length ≤ 131072) (hF : ∀ c, c ∈ cls → Fine n c) (hat : ∀ l i, i ∈ atf l → 0 ≤ i ∧ i < (cls.length : Int))
    (hrun : runF cls atf K val q = some (b, val')) :
    Calls Tryd.prog 30 #[.pointer (some ⟨g, 0, none⟩)] w fun e w' => e = .returned (.bool b) ∧ ∃ q', Spr w0 Bq g bv m Ac cc cls atf L w' val' q' := by
  have HS := Aside0.mk h
  have HR := Aside0.mk hr
  have HF := Aside0.mk hF
  have HAT := Aside0.mk hat
  have HI := Aside0.mk hI
  have HRUN := Aside0.mk (show goQ cls atf K (lookAll val q cls) = some (b, val') from hrun)
  obtain ⟨qv, c0', c1, c2, c3, f3, hqv⟩ := h.cells
  clear h hr hF hat hI hrun hqv c1 c2 c3 f3
  go_enter Tryd.func30, Tryd.ntmps30
  go_wp2
  go_loopg [4, 13] cls.length (fun kq v4 v13 w2 => ∃ (k : Nat) (val q : List Int), k + kq = cls.length ∧ v13 = .int .i64 k ∧ Aside0 (goQ cls atf K (lookAll val q (cls.drop k)) = some (b, val')) ∧ Aside0 (Inv n N val q) ∧ Aside0 (Spr w0 Bq g bv m Ac cc cls atf L w2 val q))
  case atStart => exact ⟨0, val, q, by simp, rfl, HRUN, HI, HS⟩
  case round =>
    clear HS HI HRUN c0' 
    obtain ⟨k, val, q, hk, rfl, HRUN, HI, HS⟩ := hrel
    cases gk with
    | zero =>
      have hge : ¬ ((k : Int) < (cls.length : Int)) := by omega
      have he : runQ cls atf K val q = some (b, val') := by have := HRUN.out; rw [List.drop_of_length_le (by omega)] at this; exact this
      have HE := Aside0.mk he
      clear he HRUN
      go_wp2
      go_loopg [5, 7] K (fun kq v5 v7 w2 => ∃ (val q : List Int), Aside0 (runQ cls atf kq val q = some (b, val')) ∧ Aside0 (Inv n N val q) ∧ Aside0 (Spr w0 Bq g bv m Ac cc cls atf L w2 val q))
      case atStart => exact ⟨val, q, HE, HI, HS⟩
      case round =>
        clear HS HI HE
        obtain ⟨val, q, HE, HI, HS⟩ := hrel
        cases gk with
        | zero => exact absurd HE.out (by simp [runQ])
        | succ k1 =>
          cases q with
          | nil =>
            obtain ⟨qv, c0', c1, c2, c3, f3, hqv⟩ := HS.out.cells
            obtain ⟨A, c, rfl, _⟩ := q_slice hqv
            have he := HE.out
            simp only [runQ] at he
            injection he with he
            injection he with he1 he2
            subst he1
            subst he2
            clear hqv HE
            go_wp2
            go_ret
            exact ⟨rfl, [], HS.out⟩
          | cons l q =>
            obtain ⟨gb, o, c, c3, hc, hcell, hq1, hq2⟩ := HS.out.head
            obtain ⟨qv, c0', c1, c2, c3', f3, _⟩ := HS.out.cells
            have HQ1 := Aside0.mk hq1
            have HQ2 := Aside0.mk hq2
            clear hq1 hq2 c3'
            have hlat := HAT.out l
            have he := HE.out
            simp only [runQ] at he
            have HE2 := Aside0.mk (show goQ cls atf k1 (lookAll val q (pick cls (atf l))) = some (b, val') from he)
            have HI2 := Aside0.mk (show Inv n N val q from ⟨HI.out.len, HI.out.tri, by have := HI.out.room; simp at this; omega⟩)
            have HLAT := Aside0.mk hlat
            clear he HE HI hlat
            by_cases hc1 : c = 1
            all_goals
              first
                | (obtain rfl : q = [] := List.eq_nil_of_length_eq_zero (by omega)
                   subst hc1
                   have HSa := Aside0.mk (HS.out.requeue (HQ1.out rfl))
                   simp only [Nat.sub_self, List.length_nil] at HSa)
                | have HSa := Aside0.mk (HS.out.requeue (HQ2.out hc1))
              go_wp2_with (at_lookup; refine Hid.out ?_)
              refine Lib.hid ?_
              generalize wr.setCell _ _ = W4 at HSa ⊢
              clear hcell c0' c1 c2 c3 f3 HQ1 HQ2 HS
              obtain ⟨hm, hL⟩ := HSa.out.mp
              have hlk := MapL.run_lookup hm (MapL.keyed_int .i64) Tryd.underlying53 Tryd.underlying3 (zero25 W4) l
              obtain ⟨hv, _⟩ := hL l
              obtain ⟨vl, hvl⟩ : ∃ v, v = (MapL.look l L).getD nilS := ⟨_, rfl⟩
              rw [← hvl] at hlk hv
              obtain ⟨Av, cv, rfl, hcv⟩ := q_slice hv
              have HVL := Aside0.mk hvl
              have hmax := q_max hv
              clear hm hL hvl hv
              go_wp2
              go_loopg [7, 49] (atf l).length (fun kq v7 v49 w2 => ∃ (k : Nat) (val q : List Int), k + kq = (atf l).length ∧ v49 = .int .i64 k ∧ Aside0 (goQ cls atf k1 (lookAll val q (pick cls ((atf l).drop k))) = some (b, val')) ∧ Aside0 (Inv n N val q) ∧ Aside0 (Spr w0 Bq g bv m Ac cc cls atf L w2 val q))
              case atStart => exact ⟨0, val, _, by simp, rfl, HE2, HI2, HSa⟩
              case round =>
                clear HSa HI2 HE2 hlk
                obtain ⟨k', val, q, hk', rfl, HE, HI, HS⟩ := hrel
                cases gk with
                | zero =>
                  have hge : ¬ ((k' : Int) < ((atf l).length : Int)) := by omega
                  have he : runQ cls atf k1 val q = some (b, val') := by have := HE.out; rw [List.drop_of_length_le (by omega)] at this; exact this
                  have HE2 := Aside0.mk he
                  clear he HE
                  go_wp2
                  go_roundg k1
                  case measure => omega
                  case rel => exact ⟨val, q, HE2, HI, HS⟩
                | succ k2 =>
                  have hlt : (k' : Int) < ((atf l).length : Int) := by omega
                  have hlt' : k' < (atf l).length := by omega
                  obtain ⟨_, hL⟩ := HS.out.mp
                  obtain ⟨hv, _⟩ := hL l
                  rw [← HVL.out] at hv
                  obtain ⟨ad, rfl, hcells⟩ := q_cells hv (by omega)
                  have hx := hcells k' (.int .i64 (rd (atf l) k')) (by simp [nums, rd, hlt'])
                  have hd : (atf l).drop k' = rd (atf l) k' :: (atf l).drop (k' + 1) := by rw [List.drop_eq_getElem_cons hlt']; simp [rd, hlt']
                  have hmem : rd (atf l) k' ∈ atf l := by simp only [rd, Int.toNat_natCast, List.getD_eq_getElem?_getD, List.getElem?_eq_getElem hlt', Option.getD_some]; exact List.getElem_mem _
                  obtain ⟨hi0, hi1⟩ := HLAT.out _ hmem
                  have hE3 := HE.out
                  rw [hd] at hE3
                  simp only [pick, List.map_cons, lookAll] at hE3
                  clear hL hv hcells hd hmem HE
                  have HK := Aside0.mk hk'
                  clear hk'
                  have HX := Aside0.mk hE3
                  clear hE3
                  generalize rd (atf l) k' = i at *
                  obtain ⟨i, rfl⟩ := Int.eq_ofNat_of_zero_le hi0
                  rw [Int.toNat_natCast] at HX
                  have hil : i < cls.length := by omega
                  obtain ⟨ada, A0, c0, e, hxa, hl, hin⟩ := at_KL (Kd.C_below HR.out HS.out.below) i hil
                  obtain ⟨ad', A0', c0', e', hx', hl', hin'⟩ := at_KL HR.out i hil
                  cases e
                  cases e'
                  have hsame := (HS.out.below.cell (World.block_lt_of_cell? w0 _ hx')).symm.trans hxa
                  rw [hx'] at hsame
                  have e2 : A0' = A0 ∧ c0' = c0 := by simpa using hsame
                  obtain ⟨rfl, rfl⟩ := e2
                  have hfine := HF.out _ (rdL_mem hil)
                  have HFI := Aside0.mk hfine.2
                  have hlen2 := hfine.1
                  have HLc := Aside0.mk hl
                  have HIN := Aside0.mk hin'
                  clear hl hin hfine hl' hin' hx' hsame
                  generalize rdL cls i = x at *
                  have hq1 : q.length ≤ 100000 := by have := HI.out.room; omega
                  have hlenv : val.length = n := HI.out.len
                  have HI3 := Aside0.mk (HI.out.look x (fun l hl => ⟨(HFI.out l hl).2.2, absI_nonneg l⟩))
                  obtain ⟨qv, c0'', c1, c2, c3, f3, _⟩ := HS.out.cells
                  go_wp2_with fail
                  go_outline
                  refine (look_calls _ _ x HS.out HIN.out HLc.out hlen2 (fun l hl => ⟨(HFI.out l hl).1, (HFI.out l hl).2.1, by have := (HFI.out l hl).2.2; rw [hlenv]; exact this⟩) hq1).mono ?_
                  rintro e w3 ⟨rfl, hs3⟩
                  have hI2 := HX.out
                  generalize lookF val q x = y at *
                  obtain ⟨r1, r2, r3⟩ := y
                  have HS3 := Aside0.mk hs3
                  clear hs3 HX c0'' c1 c2 c3 f3 HS
                  cases r1
                  · have he : some (false, r2) = some (b, val') := hI2
                    injection he with he
                    injection he with he1 he2
                    subst he1
                    subst he2
                    clear hI2
                    go_wp2
                    go_ret
                    exact ⟨rfl, r3, HS3.out⟩
                  · have HE := Aside0.mk (show goQ cls atf k1 (lookAll r2 r3 (pick cls ((atf l).drop (k' + 1)))) = some (b, val') from hI2)
                    clear hI2
                    go_wp2
                    go_roundg k2
                    case measure => omega
                    case rel => exact ⟨k' + 1, r2, r3, by have := HK.out; omega, by go_num, HE, HI3, HS3⟩
    | succ k1 =>
      have hlt : (k : Int) < (cls.length : Int) := by omega
      have hlt' : k < cls.length := by omega
      obtain ⟨ad, A0, c0, e, hx, hl, hin⟩ := at_KL (Kd.C_below HR.out HS.out.below) k hlt'
      obtain ⟨ad', A0', c0', e', hx', hl', hin'⟩ := at_KL HR.out k hlt'
      cases e
      cases e'
      have hsame := (HS.out.below.cell (World.block_lt_of_cell? w0 _ hx')).symm.trans hx
      rw [hx'] at hsame
      have e2 : A0' = A0 ∧ c0' = c0 := by simpa using hsame
      obtain ⟨rfl, rfl⟩ := e2
      have hd : cls.drop k = rdL cls k :: cls.drop (k + 1) := by rw [List.drop_eq_getElem_cons hlt']; simp [rdL, hlt']
      have HI2 := Aside0.mk (show goQ cls atf K (lookAll val q (rdL cls k :: cls.drop (k + 1))) = some (b, val') by rw [← hd]; exact HRUN.out)
      have hfine := HF.out _ (rdL_mem hlt')
      have HFI := Aside0.mk hfine.2
      have hlen2 := hfine.1
      have HLc := Aside0.mk hl
      have HIN := Aside0.mk hin'
      have HK := Aside0.mk hk
      clear hl hin hk hd HRUN hfine hl' hin' hx' hsame
      generalize rdL cls k = x at *
      have hq1 : q.length ≤ 100000 := by have := HI.out.room; omega
      have hlenv : val.length = n := HI.out.len
      have HI3 := Aside0.mk (HI.out.look x (fun l hl => ⟨(HFI.out l hl).2.2, absI_nonneg l⟩))
      go_wp2_with fail
      refine (look_calls _ _ x HS.out HIN.out HLc.out hlen2 (fun l hl => ⟨(HFI.out l hl).1, (HFI.out l hl).2.1, by have := (HFI.out l hl).2.2; rw [hlenv]; exact this⟩) hq1).mono ?_
      rintro e w3 ⟨rfl, hs3⟩
      have hI2 := HI2.out
      simp only [lookAll] at hI2
      generalize lookF val q x = y at *
      obtain ⟨r1, r2, r3⟩ := y
      have HS3 := Aside0.mk hs3
      clear hs3 HI2
      cases r1
      · have HE := Aside0.mk (show some (false, r2) = some (b, val') from hI2)
        go_wp2
        go_ret
        have he := HE.out
        injection he with he
        injection he with he1 he2
        subst he1
        subst he2
        exact ⟨rfl, r3, HS3.out⟩
      · have HE := Aside0.mk (show goQ cls atf K (lookAll r2 r3 (cls.drop (k + 1))) = some (b, val') from hI2)
        clear hI2
        go_wp2
        go_roundg k1
        case measure => omega
        case rel => exact ⟨k + 1, r2, r3, by have := HK.out; omega, by go_num, HE, HI3, HS3⟩
end
end Go.Proofs.YtifhiloeghmfiaaDoor.Cnf

/- Follow: its map being built. -/
namespace Go.Proofs.YtifhiloeghmfiaaDoor.Cnf
open Go.RowKit Go.Proofs.YtifhiloeghmfiaaDoorW.PrintWords Go.Proofs.YtifhiloeghmfiaaDoorW.PrintLast Go.Proofs.YtifhiloeghmfiaaDoorW.PrintMore

def addAt (a : Int → List Int) (l i : Int) : Int → List Int := fun x => if x = l then a x ++ [i] else a x
def addC (i : Int) : List Int → (Int → List Int) → Int → List Int
  | [], a => a
  | l :: r, a => addC i r (addAt a (-l) i)
def addAll : List (List Int) → Int → (Int → List Int) → Int → List Int
  | [], _, a => a
  | c :: r, i, a => addAll r (i + 1) (addC i c a)
/-- At a literal: the clauses that hold its negative. -/
def atAll (cls : List (List Int)) : Int → List Int := addAll cls 0 (fun _ => [])

theorem addC_mem (i : Int) : ∀ (c : List Int) (a : Int → List Int) (x j : Int), j ∈ addC i c a x → j ∈ a x ∨ j = i
  | [], _, _, _, h => .inl h
  | l :: r, a, x, j, h => by
    rcases addC_mem i r _ x j h with h | h
    · unfold addAt at h
      split at h
      · rcases List.mem_append.1 h with h | h
        · exact .inl h
        · exact .inr (List.mem_singleton.1 h)
      · exact .inl h
    · exact .inr h
theorem addAll_mem : ∀ (cs : List (List Int)) (i : Int) (a : Int → List Int) (x j : Int), j ∈ addAll cs i a x → j ∈ a x ∨ (i ≤ j ∧ j < i + cs.length)
  | [], _, _, _, _, h => .inl h
  | c :: r, i, a, x, j, h => by
    rcases addAll_mem r (i + 1) _ x j h with h | h
    · rcases addC_mem i c a x j h with h | h
      · exact .inl h
      · exact .inr (by simp only [List.length_cons]; omega)
    · exact .inr (by simp only [List.length_cons]; omega)
theorem atAll_mem (cls : List (List Int)) (x j : Int) (h : j ∈ atAll cls x) : 0 ≤ j ∧ j < (cls.length : Int) := by
  rcases addAll_mem cls 0 _ x j h with h | h
  · cases h
  · omega

/-- What memory holds while the map is built: its rows are no two the same. -/
structure Bld (w0 : World) (g bv m : Nat) (Ac : Option Addr) (cc : Nat) (cls : List (List Int)) (a : Int → List Int) (L : List (Int × Value)) (w : World) (val : List Int) : Prop where
  below : Below w0.heap.size w0 w
  lo : w0.heap.size ≤ g ∧ w0.heap.size ≤ bv ∧ w0.heap.size ≤ m
  st : w.heap[g]? = some (.cells #[.slice Ac cls.length cc, .map (some m), .slice (some ⟨bv, 0, none⟩) val.length val.length, .slice none 0 0] 56 (0, 0))
  va : w.heap[bv]? = some (.cells (nums .i8 val).toArray 57 (0, 0))
  mp : MapL.Is (Value.int .i64) w m L ∧ ∀ l, QRow w w0.heap.size 3 1 ((MapL.look l L).getD nilS) (a l).length (nums .i64 (a l))
  ap : ∀ l l' k, l ≠ l' → ((MapL.look l L).getD nilS).ownBlock = some k → ((MapL.look l' L).getD nilS).ownBlock ≠ some k

section
variable {w0 : World} {g bv m : Nat} {Ac : Option Addr} {cc : Nat} {cls : List (List Int)} {a : Int → List Int} {L : List (Int × Value)} {w : World} {val q : List Int}

theorem Bld.drewN (h : Bld w0 g bv m Ac cc cls a L w val) (n : Nat) : Bld w0 g bv m Ac cc cls a L (w.drewN n) val :=
  ⟨pw_below_drewN h.below n, h.lo, h.st, h.va, h.mp, h.ap⟩

theorem Bld.spr (h : Bld w0 g bv m Ac cc cls a L w val) : Spr w0 w.heap.size g bv m Ac cc cls a L w val [] := by
  refine ⟨h.below, Nat.le_refl _, ⟨h.lo.1, h.lo.2.1, h.lo.2.2, blk_lt h.st, blk_lt h.va, h.mp.1.lt⟩, ⟨_, h.st, ⟨rfl, .inl ⟨rfl, none, rfl, fun _ e => by cases e⟩⟩⟩, h.va, h.mp.1, fun l => ⟨h.mp.2 l, fun k hk => q_lt (h.mp.2 l) k hk⟩⟩

def zerosL (n : Nat) : List Int := List.replicate n 0
theorem zerosL_length (n : Nat) : (zerosL n).length = n := by simp [zerosL]

/-- The two orders in which the blocks may be made. -/
theorem Bld.start1 (w0 w1 : World) (z : Nat) (hz : w1.heap.size = z) (hb : Below w0.heap.size w0 w1) (Ac : Option Addr) (cc : Nat) (cls : List (List Int)) (n : Nat) :
    Bld w0 (z + 1 + 1) (z + 1) z Ac cc cls (fun _ => []) [] (((w1.alloc (.map #[] 0)).alloc (.cells (nums .i8 (zerosL n)).toArray 57)).alloc
      (.cells #[.slice Ac cls.length cc, .map (some z), .slice (some ⟨z + 1, 0, none⟩) n n, .slice none 0 0] 56)) (zerosL n) := by
  subst hz
  have hs := hb.size
  refine ⟨((hb.alloc hs _).alloc (by simp; omega) _).alloc (by simp; omega) _, ⟨by omega, by omega, by omega⟩, ?_, ?_, ⟨(MapL.Is.made _ w1 |>.alloc _).alloc _, fun l => ⟨rfl, .inl ⟨rfl, none, rfl, fun _ e => by cases e⟩⟩⟩, fun l l' k _ h => by cases h⟩
  · rw [zerosL_length]
    have := blk_new ((w1.alloc (.map #[] 0)).alloc (.cells (nums .i8 (zerosL n)).toArray 57)) (.cells #[.slice Ac cls.length cc, .map (some w1.heap.size), .slice (some ⟨w1.heap.size + 1, 0, none⟩) n n, .slice none 0 0] 56)
    simpa using this
  · refine blk_alloc ?_ _
    have := blk_new (w1.alloc (.map #[] 0)) (.cells (nums .i8 (zerosL n)).toArray 57)
    simpa using this
theorem Bld.start2 (w0 w1 : World) (z : Nat) (hz : w1.heap.size = z) (hb : Below w0.heap.size w0 w1) (Ac : Option Addr) (cc : Nat) (cls : List (List Int)) (n : Nat) :
    Bld w0 (z + 1 + 1) z (z + 1) Ac cc cls (fun _ => []) [] (((w1.alloc (.cells (nums .i8 (zerosL n)).toArray 57)).alloc (.map #[] 0)).alloc
      (.cells #[.slice Ac cls.length cc, .map (some (z + 1)), .slice (some ⟨z, 0, none⟩) n n, .slice none 0 0] 56)) (zerosL n) := by
  subst hz
  have hs := hb.size
  refine ⟨((hb.alloc hs _).alloc (by simp; omega) _).alloc (by simp; omega) _, ⟨by omega, by omega, by omega⟩, ?_, ?_, ⟨?_, fun l => ⟨rfl, .inl ⟨rfl, none, rfl, fun _ e => by cases e⟩⟩⟩, fun l l' k _ h => by cases h⟩
  · rw [zerosL_length]
    have := blk_new ((w1.alloc (.cells (nums .i8 (zerosL n)).toArray 57)).alloc (.map #[] 0)) (.cells #[.slice Ac cls.length cc, .map (some (w1.heap.size + 1)), .slice (some ⟨w1.heap.size, 0, none⟩) n n, .slice none 0 0] 56)
    simpa using this
  · refine blk_alloc (blk_alloc ?_ _) _
    have := blk_new w1 (.cells (nums .i8 (zerosL n)).toArray 57)
    simpa using this
  · have := MapL.Is.made (Value.int .i64) (w1.alloc (.cells (nums .i8 (zerosL n)).toArray 57))
    exact (show MapL.Is (Value.int .i64) _ (w1.heap.size + 1) [] by simpa using this).alloc _

/-- Behind the append, ahead of the store into the map. -/
theorem Bld.grown (h : Bld w0 g bv m Ac cc cls a L w val) (l : Int) (o : Obj) {w1 : World} (hg : (w.alloc o).grownBy w1 ((MapL.look l L).getD nilS).ownBlock) : MapL.Is (Value.int .i64) w1 m L := by
  have hm := h.mp.1
  refine (hm.alloc o).same (hg.block m (by have := hm.lt; simp; omega) (fun e => ?_))
  obtain ⟨_, cells, hc⟩ := q_typed (h.mp.2 l) m e.symm
  exact map_ne hm hc rfl

theorem nilS_own : nilS.ownBlock = none := rfl

theorem Bld.added (h : Bld w0 g bv m Ac cc cls a L w val) (l i : Int) (o : Obj) {w1 w2 : World} {v' : Value} (hg : (w.alloc o).grownBy w1 ((MapL.look l L).getD nilS).ownBlock)
    (hq : QRow w1 w0.heap.size 3 1 v' ((a l).length + 1) (nums .i64 (a l) ++ [.int .i64 i])) (hat : v'.ownBlock = ((MapL.look l L).getD nilS).ownBlock ∨ ∃ b, v'.ownBlock = some b ∧ (w.alloc o).heap.size ≤ b)
    (hm : MapL.Is (Value.int .i64) w2 m (MapL.put l v' L)) (hg2 : w1.grownBy w2 (some m)) : Bld w0 g bv m Ac cc cls (addAt a l i) (MapL.put l v' L) w2 val := by
  have hq0 := h.mp.2 l
  have hm1 := h.grown l o hg
  have hsz := hg.size
  simp only [World.size_alloc] at hsz
  have keep : ∀ k ob, w.heap[k]? = some ob → some k ≠ ((MapL.look l L).getD nilS).ownBlock → k ≠ m → w2.heap[k]? = some ob := fun k ob hk hne hnm => by
    have h1 := blk_grown (blk_alloc hk o) hg hne
    exact blk_grown h1 hg2 (fun e => hnm (Option.some.inj e))
  have hlow : ∀ k, ((MapL.look l L).getD nilS).ownBlock = some k → w0.heap.size ≤ k := fun k hk => (q_typed hq0 k hk).1
  have hlo := h.lo
  have hs0 := h.below.size
  refine ⟨?_, h.lo, ?_, ?_, ⟨hm, fun x => ?_⟩, fun x y k hxy hx hy => ?_⟩
  · exact ((h.below.alloc h.below.size o).grown hg (by simp; omega) hlow).grown hg2 (by omega) (fun k hk => by cases hk; exact h.lo.2.2)
  · exact keep g _ h.st (fun e => typed_ne hq0 h.st (by decide) g e.symm rfl) (fun e => map_ne h.mp.1 h.st e.symm)
  · exact keep bv _ h.va (fun e => typed_ne hq0 h.va (by decide) bv e.symm rfl) (fun e => map_ne h.mp.1 h.va e.symm)
  · by_cases hx : x = l
    · subst hx
      rw [MapL.look_put]
      have e : nums .i64 (addAt a x i x) = nums .i64 (a x) ++ [.int .i64 i] := by simp [addAt, nums]
      rw [e, show (addAt a x i x).length = (a x).length + 1 by simp [addAt]]
      refine q_move hq (fun k hk => ?_)
      obtain ⟨_, cells, hc⟩ := q_typed hq k hk
      exact (blk_grown hc hg2 (fun e => map_ne hm1 hc (Option.some.inj e).symm)).trans hc.symm
    · rw [MapL.look_put_ne hx, show addAt a l i x = a x by simp [addAt, hx]]
      refine q_move (h.mp.2 x) (fun k hk => ?_)
      obtain ⟨_, cells, hc⟩ := q_typed (h.mp.2 x) k hk
      exact (keep k _ hc (fun e => h.ap x l k hx hk e.symm) (fun e => map_ne h.mp.1 hc e.symm)).trans hc.symm
  · have fresh : ∀ z k, z ≠ l → ((MapL.look z L).getD nilS).ownBlock = some k → v'.ownBlock = some k → False := fun z k hz hk hv => by
      rcases hat with e | ⟨b, hb, hbs⟩
      · exact h.ap z l k hz hk (e.symm.trans hv)
      · rw [hv] at hb
        cases hb
        have := q_lt (h.mp.2 z) k hk
        simp at hbs
        omega
    by_cases hx1 : x = l
    · subst hx1
      rw [MapL.look_put] at hx
      rw [MapL.look_put_ne (Ne.symm hxy)] at hy
      exact fresh y k (Ne.symm hxy) hy hx
    · rw [MapL.look_put_ne hx1] at hx
      by_cases hy1 : y = l
      · subst hy1
        rw [MapL.look_put] at hy
        exact fresh x k hx1 hx hy
      · rw [MapL.look_put_ne hy1] at hy
        exact h.ap x y k hxy hx hy
end
end Go.Proofs.YtifhiloeghmfiaaDoor.Cnf

/- Follow: the walk. -/
namespace Go.Proofs.YtifhiloeghmfiaaDoor.Cnf
open Go.RowKit Go.Proofs.YtifhiloeghmfiaaDoorW.PrintWords Go.Proofs.YtifhiloeghmfiaaDoorW.PrintLast Go.Proofs.YtifhiloeghmfiaaDoorW.PrintMore

def takeAll (val q : List Int) : List Int → Bool × List Int × List Int
  | [] => (true, val, q)
  | l :: r => bif (takeF val q l).1 then takeAll (takeF val q l).2.1 (takeF val q l).2.2 r else (false, (takeF val q l).2)
/-- The known literals, by their variables. -/
def outF : List Int → Int → List Int
  | [], _ => []
  | s :: r, i => bif s != 0 then i * s :: outF r (i + 1) else outF r (i + 1)
theorem inv_zero (n : Nat) : Inv n n (zerosL n) [] := by
  refine ⟨zerosL_length n, fun v hv => .inr (.inl (by simpa [zerosL] using (List.mem_replicate.1 hv).2)), ?_⟩
  have : zeros (zerosL n) ≤ (zerosL n).length := List.length_filter_le _ _
  rw [zerosL_length] at this
  simpa using this
def endRun : Option (Bool × List Int) → Option (List Int × Bool × Int)
  | none => none
  | some (b, val) => some (bif b then (outF val 0, false, 0) else ([], true, 0))
def goTake (cls : List (List Int)) (k : Nat) (x : Bool × List Int × List Int) : Option (List Int × Bool × Int) :=
  bif x.1 then endRun (runF cls (atAll cls) k x.2.1 x.2.2) else some ([], true, 0)
def badL (vars : Int) (lits : List Int) : Bool := lits.any fun l => !soundB vars l
/-- What Follow answers. -/
def followF (k : Nat) (vars : Int) (cls : List (List Int)) (lits : List Int) : Option (List Int × Bool × Int) :=
  bif checkF vars cls != 0 || badL vars lits then some ([], false, 150) else goTake cls k (takeAll (zerosL (vars + 1).toNat) [] lits)

theorem info57 : (Tryd.prog.info? 57).map (fun i => (i.zero, i.size, i.bytes)) = some (some (.int .i8 0), 1, 1) := by kernel_rfl

theorem Follow1_pred (g : Nat) (vars : Int) (hv : 0 ≤ vars ∧ vars ≤ 4096) (w : World) (hc : w.cell? ⟨g, 0, none⟩ = some (.int .i64 vars)) :
    PredI (fun _ => True) 27 #[.pointer (some ⟨g, 0, none⟩)] (fun l => !soundB vars l) w := by
  refine ⟨fun args W => enters_ Tryd.func27 (by kernel_rfl) rfl args W, fun n x _ => ?_⟩
  obtain ⟨r, hr⟩ : ∃ r, r = soundB vars x := ⟨_, rfl⟩
  show Calls Tryd.prog 27 #[.int .i64 x, .pointer (some ⟨g, 0, none⟩)] (w.drewN n) _
  simp only [← hr]
  have HRr := Aside0.mk hr
  clear hr
  go_enter Tryd.func27, Tryd.ntmps27
  go_wp2_with fail
  refine (sound_calls vars x hv _).mono ?_
  rintro e w' ⟨rfl, rfl⟩
  rw [← HRr.out]
  go_wp2
  go_ret
  exact ⟨rfl, Drawn0.refl _⟩

theorem make8 (u : World) (n : Nat) (hn : n ≤ 100000) : (Instr.makeSlice 54 (.int .i64 (n : Int)) (.int .i64 (n : Int))).run Tryd.prog u =
      .ok (.slice (some ⟨u.heap.size, 0, none⟩) n n) (u.alloc (.cells (nums .i8 (zerosL n)).toArray 57)) := by
  obtain ⟨i0, hi, hz0, hz1, hz2⟩ := info_parts info57
  have h := run_make (P := Tryd.prog) u 54 57 i0 (.int .i8 0) Tryd.underlying54 hi hz0 .i64 .i64 (n : Int) (n : Int) (by omega) (Int.le_refl _) (by rw [hz2]; omega) (by omega)
  rw [h]
  rw [hz1, Int.toNat_natCast, Nat.mul_one]
  have e : madeCells (Value.int .i8 0).cells n = (nums .i8 (zerosL n)).toArray := by
    apply Array.ext'
    rw [show (Value.int .i8 0).cells = #[.int .i8 0] from rfl, toList_madeCells_one]
    simp [nums, zerosL]
  rw [e]

set_option maxRecDepth 100000 in
set_option maxHeartbeats 4000000 in
theorem Follow_calls (K : Nat) (vars : Int) (A : Option Addr) (c : Nat) (cls : List (List Int)) (Al : Option Addr) (cl : Nat) (lits : List Int) (r1 : List Int) (r2 : Bool) (r3 : Int) (w : World) (hv : -9223372036854775808 ≤ vars ∧ vars ≤ 9223372036854775807)
    (hr : Kd.C KL w A cls.length cls) (hc : cls.length ≤ c) (hrl : Kd.C (Kd.int .i64) w Al lits.length lits) (hcl : lits.length ≤ cl) (hll : lits.length ≤ 1000000000000) (hfo : followF K vars cls lits = some (r1, r2, r3)) :
    Calls Tryd.prog 11 #[.agg #[.int .i64 vars, .slice A cls.length c], .slice Al lits.length cl] w fun e w' => ∃ v, e = .returned (.tuple #[v, .bool r2, .int .i64 r3]) ∧
      w'.ownsRow w.heap.size 3 1 v r1.length (nums .i64 r1) ∧ Below w.heap.size w w' := by
  have HFO := Aside0.mk hfo
  have HR := Aside0.mk hr
  have HRL := Aside0.mk hrl
  clear hr hrl hfo
  go_enter Tryd.func11, Tryd.ntmps11
  go_wp2_with fail
  refine (Check_calls vars A c cls _ hv ?_ hc).mono ?_
  · exact Kd.C_alloc HR.out _
  rintro e w1 ⟨rfl, hb⟩
  have hc0 : w1.cell? ⟨w.heap.size, 0, none⟩ = some (.int .i64 vars) := (hb.cell (p := ⟨w.heap.size, 0, none⟩) (by simp)).trans (by go_simp)
  have hc1 : w1.cell? ⟨w.heap.size, 1, none⟩ = some (.slice A cls.length c) := (hb.cell (p := ⟨w.heap.size, 1, none⟩) (by simp)).trans (by go_simp)
  have hlt1 : w.heap.size < w1.heap.size := by have := hb.size; simp at this; omega
  have hbel : Below w.heap.size w w1 := ((Below.refl _ _).alloc (Nat.le_refl _) _).trans (hb.mono (by simp))
  clear hb
  have HB := Aside0.mk hbel
  clear hbel
  rcases checkF_or vars cls with hz | hz
  · obtain ⟨⟨h1, h2⟩, h3, h4⟩ := checkF_zero hz
    have H4 := Aside0.mk h4
    clear h4
    have hfo := HFO.out
    simp only [followF, hz] at hfo
    rw [hz]
    go_wp2_with fail
    refine (ContainsFunc_calls Al cl lits (fun _ => True) 27 _ (fun l => !soundB vars l) _ ?_ hcl hll (fun _ _ => trivial) (Follow1_pred w.heap.size vars ⟨h1, h2⟩ _ ?_)).mono ?_
    · exact Kd.C_below HRL.out HB.out
    · go_simp
    rintro e w2 ⟨rfl, ⟨m', rfl⟩⟩
    have HZ := Aside0.mk hz
    clear hz HFO
    cases hbad : badL vars lits with
    | true =>
      rw [hbad] at hfo
      have he : r1 = [] ∧ r2 = false ∧ r3 = 150 := by simpa [eq_comm] using hfo
      obtain ⟨rfl, rfl, rfl⟩ := he
      have hbad' : (lits.any fun l => !soundB vars l) = true := hbad
      clear hfo hbad
      go_wp2
      go_ret3
      exact ⟨_, rfl, World.ownsRow_nil _ _ _ _, pw_below_drewN HB.out _⟩
    | false =>
      rw [hbad] at hfo
      have hbad' : (lits.any fun l => !soundB vars l) = false := hbad
      have HFO := Aside0.mk (show goTake cls K (takeAll (zerosL (vars + 1).toNat) [] lits) = some (r1, r2, r3) from hfo)
      have HBAD := Aside0.mk hbad'
      clear hfo hbad
      have hmm := @run_makeMap Tryd.prog
      obtain ⟨n, rfl⟩ : ∃ n : Nat, vars = n := ⟨vars.toNat, by omega⟩
      have hmk := fun u => make8 u (n + 1) (by omega)
      rw [show ((n + 1 : Nat) : Int) = (n : Int) + 1 by omega] at hmk
      have ka0 : ∀ (n : Nat) (o : Obj), ((w1.drewN n).alloc o).cell? ⟨w.heap.size, 0, none⟩ = _ := fun n o => pw_cell_below (below_alloc (pw_below_drewN (Below.refl _ _) n) o) hc0
      have ka1 : ∀ (n : Nat) (o : Obj), ((w1.drewN n).alloc o).cell? ⟨w.heap.size, 1, none⟩ = _ := fun n o => pw_cell_below (below_alloc (pw_below_drewN (Below.refl _ _) n) o) hc1
      have kb0 : ∀ (n : Nat) (o o' : Obj), (((w1.drewN n).alloc o).alloc o').cell? ⟨w.heap.size, 0, none⟩ = _ := fun n o o' => pw_cell_below (below_alloc (below_alloc (pw_below_drewN (Below.refl _ _) n) o) o') hc0
      have kb1 : ∀ (n : Nat) (o o' : Obj), (((w1.drewN n).alloc o).alloc o').cell? ⟨w.heap.size, 1, none⟩ = _ := fun n o o' => pw_cell_below (below_alloc (below_alloc (pw_below_drewN (Below.refl _ _) n) o) o') hc1
      have kc1 : ∀ (n : Nat) (o o' o'' : Obj), ((((w1.drewN n).alloc o).alloc o').alloc o'').cell? ⟨w.heap.size, 1, none⟩ = _ := fun n o o' o'' => pw_cell_below (below_alloc (below_alloc (below_alloc (pw_below_drewN (Below.refl _ _) n) o) o') o'') hc1
      go_wp2_with fail
      go_region
      clear hmk hmm
      all_goals
        first
          | (with_reducible show Exit.then _ _ Exit.normal _ (World.alloc (World.alloc (World.alloc _ (.map #[] 0)) _) _)
             have hB := Bld.start1 w (w1.drewN (m' + 1)) w1.heap.size rfl (pw_below_drewN HB.out _) A c cls (n + 1)
             have hkc1 := kc1 (m' + 1) (.map #[] 0) (.cells (nums .i8 (zerosL (n + 1))).toArray 57) (.cells #[.slice A cls.length c, .map (some w1.heap.size), .slice (some ⟨w1.heap.size + 1, 0, none⟩) (n + 1) (n + 1), .slice none 0 0] 56)
             clear ka0 ka1 kb0 kb1 kc1 hc0 hc1
             generalize ((World.alloc _ _).alloc _) = W2 at hB hkc1 ⊢
             go_wp2_with fail
             generalize w1.heap.size + 1 + 1 = g at hB ⊢
             generalize w1.heap.size + 1 = bv at hB ⊢
             generalize w1.heap.size = m at hB ⊢)
          | (have hB := Bld.start2 w (w1.drewN (m' + 1)) w1.heap.size rfl (pw_below_drewN HB.out _) A c cls (n + 1)
             have hkc1 := kc1 (m' + 1) (.cells (nums .i8 (zerosL (n + 1))).toArray 57) (.map #[] 0) (.cells #[.slice A cls.length c, .map (some (w1.heap.size + 1)), .slice (some ⟨w1.heap.size, 0, none⟩) (n + 1) (n + 1), .slice none 0 0] 56)
             clear ka0 ka1 kb0 kb1 kc1 hc0 hc1
             generalize ((World.alloc _ _).alloc _) = W2 at hB hkc1 ⊢
             go_wp2_with fail
             generalize w1.heap.size + 1 + 1 = g at hB ⊢
             generalize w1.heap.size + 1 = m at hB ⊢
             generalize w1.heap.size = bv at hB ⊢)
        have BLD := Aside0.mk hB
        clear hB
        clear hkc1
        go_loopg [8, 9, 37] cls.length (fun kq v8 v9 v37 w2 => ∃ (k : Nat) (a : Int → List Int) (L : List (Int × Value)), k + kq = cls.length ∧ v37 = .int .i64 k ∧ Aside0 (atAll cls = addAll (cls.drop k) k a) ∧ Aside0 (∀ x, (a x).length ≤ 128 * k) ∧ Aside0 (Bld w g bv m A c cls a L w2 (zerosL (n + 1))))
        case atStart => exact ⟨0, _, _, by simp, rfl, ⟨rfl⟩, ⟨fun _ => Nat.zero_le _⟩, BLD⟩
        case round =>
          clear BLD
          obtain ⟨k, a, L, hk, rfl, HA, HN, BLD⟩ := hrel
          cases gk with
          | zero =>
            have hge : ¬ ((k : Int) < (cls.length : Int)) := by omega
            have hat : atAll cls = a := by rw [HA.out, List.drop_of_length_le (by omega)]; rfl
            have HAT := Aside0.mk hat
            clear hat HA HN
            go_wp2
            have SPR := Aside0.mk (show Spr w wr.heap.size g bv m A c cls (atAll cls) L wr (zerosL (n + 1)) [] by rw [HAT.out]; exact BLD.out.spr)
            have INV := Aside0.mk (show Inv (n + 1) (n + 1) (zerosL (n + 1)) [] from inv_zero (n + 1))
            clear BLD HAT
            generalize wr.heap.size = Bq at SPR
            go_loopg [13, 68] lits.length (fun kq v13 v68 w2 => ∃ (k : Nat) (val q : List Int), k + kq = lits.length ∧ v68 = .int .i64 k ∧ Aside0 (goTake cls K (takeAll val q (lits.drop k)) = some (r1, r2, r3)) ∧ Aside0 (Inv (n + 1) (n + 1) val q) ∧ Aside0 (Spr w Bq g bv m A c cls (atAll cls) L w2 val q))
            case atStart => exact ⟨0, _, [], by simp, rfl, HFO, INV, SPR⟩
            case round =>
              clear SPR INV HFO
              obtain ⟨k', val, q, hk', rfl, HFO, INV, SPR⟩ := hrel
              cases gk with
              | zero =>
                have hge : ¬ ((k' : Int) < (lits.length : Int)) := by omega
                have hf : endRun (runF cls (atAll cls) K val q) = some (r1, r2, r3) := by have := HFO.out; rw [List.drop_of_length_le (l := lits) (by omega)] at this; exact this
                cases hrun : runF cls (atAll cls) K val q with
                | none => rw [hrun] at hf; cases hf
                | some bv' =>
                  obtain ⟨b, val'⟩ := bv'
                  rw [hrun] at hf
                  have HF := Aside0.mk hf
                  clear hf HFO
                  go_wp2_with fail
                  have hfine : ∀ x, x ∈ cls → Fine (n + 1) x := fun x hx => ⟨(H4.out x hx).1, fun l hl => by
                    obtain ⟨q1, q2, q3, q4⟩ := absI_range ((H4.out x hx).2 l hl) ⟨h1, h2⟩
                    exact ⟨q3, q4, by omega⟩⟩
                  refine (run_calls (n + 1) (n + 1) K b val' SPR.out INV.out (by omega) HR.out hc h3 hfine (atAll_mem cls) hrun).mono ?_
                  rintro e w3 ⟨rfl, q', hs3⟩
                  have SPR3 := Aside0.mk hs3
                  obtain ⟨q2, hinv2⟩ := runF_len cls (atAll cls) K val q b val' INV.out hfine (atAll_mem cls) hrun
                  have INVL := Aside0.mk hinv2
                  clear hinv2
                  clear hs3 SPR hfine hrun INV
                  cases b with
                  | false =>
                    have he : some ([], true, 0) = some (r1, r2, r3) := HF.out
                    injection he with he
                    simp only [Prod.mk.injEq] at he
                    obtain ⟨rfl, rfl, rfl⟩ := he
                    clear HF
                    go_wp2
                    go_ret3
                    exact ⟨_, rfl, World.ownsRow_nil _ _ _ _, SPR3.out.below⟩
                  | true =>
                    have he : some (outF val' 0, false, 0) = some (r1, r2, r3) := HF.out
                    injection he with he
                    simp only [Prod.mk.injEq] at he
                    obtain ⟨he1, rfl, rfl⟩ := he
                    have HE1 := Aside0.mk he1
                    clear HF he1
                    obtain ⟨qv, d0, d1, d2, d3, d4, _⟩ := SPR3.out.cells
                    clear d0 d1 d3 d4
                    go_wp2_with fail
                    have HV := Aside0.mk (fun i hi => (SPR3.out.val_cell i hi).1)
                    have HBB := Aside0.mk SPR3.out.below
                    have HTRI := Aside0.mk INVL.out.tri
                    have hvl : val'.length ≤ 5000 := by have := INVL.out.len; omega
                    clear SPR3 INVL d2
                    go_loopg [14, 15, 16, 85] val'.length (fun kq v14 v15 v16 v85 w4 => ∃ (k : Nat) (out : List Int), k + kq = val'.length ∧ v85 = .int .i64 k ∧ Aside0 (r1 = out ++ outF (val'.drop k) k) ∧ Aside0 (out.length ≤ k) ∧ Aside0 (w4.ownsRow w3.heap.size 3 1 v14 out.length (nums .i64 out)) ∧ Aside0 (Below w3.heap.size w3 w4))
                    case atStart => exact ⟨0, [], by simp, rfl, ⟨HE1.out.symm⟩, ⟨Nat.le_refl _⟩, ⟨World.ownsRow_nil _ _ _ _⟩, ⟨Below.refl _ _⟩⟩
                    case round =>
                      clear HE1
                      obtain ⟨k', out, hk', rfl, HO, HLO, HOWN, HB4⟩ := hrel
                      cases gk with
                      | zero =>
                        have hge : ¬ ((k' : Int) < (val'.length : Int)) := by omega
                        have he : r1 = out := by rw [HO.out, List.drop_of_length_le (by omega)]; simp [outF]
                        subst he
                        go_wp2
                        go_ret3
                        exact ⟨_, rfl, own_weaken HOWN.out HBB.out.size, HBB.out.trans (HB4.out.mono HBB.out.size)⟩
                      | succ k2 =>
                        have hlt : (k' : Int) < (val'.length : Int) := by omega
                        have hlt' : k' < val'.length := by omega
                        have hx := HV.out k' hlt'
                        have hx2 := (HB4.out.cell (World.block_lt_of_cell? w3 _ hx)).trans hx
                        have hd : val'.drop k' = rd val' k' :: val'.drop (k' + 1) := by rw [List.drop_eq_getElem_cons hlt']; simp [rd, hlt']
                        have hmem : rd val' k' ∈ val' := by simp only [rd, Int.toNat_natCast, List.getD_eq_getElem?_getD, List.getElem?_eq_getElem hlt', Option.getD_some]; exact List.getElem_mem _
                        have ht := HTRI.out _ hmem
                        have hO2 := HO.out
                        rw [hd] at hO2
                        simp only [outF] at hO2
                        have HX := Aside0.mk hO2
                        have HJ := Aside0.mk hk'
                        have hlo := HLO.out
                        have hb4 := HB4.out.size
                        clear hd hmem hO2 HO hk' hx
                        generalize rd val' k' = s at *
                        obtain ⟨i0, hi, hz0, hz1, hz2⟩ := info_parts info3
                        rcases ht with rfl | rfl | rfl
                        · have HO := Aside0.mk (show r1 = (out ++ [(k' : Int) * -1]) ++ outF (val'.drop (k' + 1)) ((k' + 1 : Nat) : Int) by rw [HX.out]; simp)
                          clear HX
                          go_wp2_with (at_builtin; refine Hid.out ?_)
                          refine Lib.hid ?_
                          refine wpList_append_own _ rfl _ _ 25 rfl w3.heap.size 3 i0 (.int .i64 0) 1 8 Tryd.underlying25 hi hz0 hz1 hz2 rfl (by decide) _ out.length (nums .i64 out) rfl (HOWN.out.alloc _) ⟨_, 0, none⟩ 1 1 [.int .i64 (-(k' : Int))] rfl rfl (cell_new1 _ _ _ _ rfl) (by simp [Value.oneCell']) (by simp only [maxLen]; omega) (by omega) (by simp; omega) ?_
                          intro v' w5 hown' hg' _
                          have HOWN5 := Aside0.mk (show w5.ownsRow w3.heap.size 3 1 v' (out ++ [(k' : Int) * -1]).length (nums .i64 (out ++ [(k' : Int) * -1])) by
                            rw [List.length_append, show nums .i64 (out ++ [(k' : Int) * -1]) = nums .i64 out ++ [.int .i64 (-(k' : Int))] by simp [nums]]
                            exact hown')
                          have HB5 := Aside0.mk (show Below w3.heap.size w3 w5 from (HB4.out.alloc hb4 _).grown hg' (by simp; omega) (fun k hk => (q_typed (q_of_own HOWN.out) k hk).1))
                          clear hown' hg' HOWN HB4
                          go_wp2
                          go_roundg k2
                          case measure => omega
                          case rel => exact ⟨k' + 1, out ++ [(k' : Int) * -1], by have := HJ.out; omega, by go_num, HO, ⟨by rw [List.length_append, List.length_cons, List.length_nil]; omega⟩, HOWN5, HB5⟩
                        · have HO := Aside0.mk (show r1 = out ++ outF (val'.drop (k' + 1)) ((k' + 1 : Nat) : Int) by rw [HX.out]; simp)
                          clear HX
                          go_wp2
                          go_roundg k2
                          case measure => omega
                          case rel => exact ⟨k' + 1, out, by have := HJ.out; omega, by go_num, HO, ⟨by omega⟩, HOWN, HB4⟩
                        · have HO := Aside0.mk (show r1 = (out ++ [(k' : Int) * 1]) ++ outF (val'.drop (k' + 1)) ((k' + 1 : Nat) : Int) by rw [HX.out]; simp)
                          clear HX
                          go_wp2_with (at_builtin; refine Hid.out ?_)
                          refine Lib.hid ?_
                          refine wpList_append_own _ rfl _ _ 25 rfl w3.heap.size 3 i0 (.int .i64 0) 1 8 Tryd.underlying25 hi hz0 hz1 hz2 rfl (by decide) _ out.length (nums .i64 out) rfl (HOWN.out.alloc _) ⟨_, 0, none⟩ 1 1 [.int .i64 ((k' : Int))] rfl rfl (cell_new1 _ _ _ _ rfl) (by simp [Value.oneCell']) (by simp only [maxLen]; omega) (by omega) (by simp; omega) ?_
                          intro v' w5 hown' hg' _
                          have HOWN5 := Aside0.mk (show w5.ownsRow w3.heap.size 3 1 v' (out ++ [(k' : Int) * 1]).length (nums .i64 (out ++ [(k' : Int) * 1])) by
                            rw [List.length_append, show nums .i64 (out ++ [(k' : Int) * 1]) = nums .i64 out ++ [.int .i64 ((k' : Int))] by simp [nums]]
                            exact hown')
                          have HB5 := Aside0.mk (show Below w3.heap.size w3 w5 from (HB4.out.alloc hb4 _).grown hg' (by simp; omega) (fun k hk => (q_typed (q_of_own HOWN.out) k hk).1))
                          clear hown' hg' HOWN HB4
                          go_wp2
                          go_roundg k2
                          case measure => omega
                          case rel => exact ⟨k' + 1, out ++ [(k' : Int) * 1], by have := HJ.out; omega, by go_num, HO, ⟨by rw [List.length_append, List.length_cons, List.length_nil]; omega⟩, HOWN5, HB5⟩
              | succ k2 =>
                have hlt : (k' : Int) < (lits.length : Int) := by omega
                have hlt' : k' < lits.length := by omega
                obtain ⟨ad2, e, hx2⟩ := Kd.at_int (Kd.C_below HRL.out SPR.out.below) k' (by omega) hlt
                cases e
                rw [Int.toNat_natCast] at hx2
                have hd : lits.drop k' = rd lits k' :: lits.drop (k' + 1) := by rw [List.drop_eq_getElem_cons hlt']; simp [rd, hlt']
                have hmem : rd lits k' ∈ lits := by simp only [rd, Int.toNat_natCast, List.getD_eq_getElem?_getD, List.getElem?_eq_getElem hlt', Option.getD_some]; exact List.getElem_mem _
                have hsnd : soundB n (rd lits k') = true := by have := List.any_eq_false.1 HBAD.out _ hmem; simpa using this
                obtain ⟨hl1, hl2, hl3, hl4⟩ := absI_range hsnd ⟨h1, h2⟩
                have hF2 := HFO.out
                rw [hd] at hF2
                simp only [takeAll] at hF2
                have HX := Aside0.mk hF2
                have HJ := Aside0.mk hk'
                clear hd hmem hF2 HFO hk' hsnd
                generalize rd lits k' = l at *
                have hq1 : q.length ≤ 100000 := by have := INV.out.room; omega
                have hlenv : val.length = n + 1 := INV.out.len
                have INV2 := Aside0.mk (INV.out.take l (by omega) (by omega))
                go_wp2_with fail
                refine (take_calls l SPR.out ⟨hl3, hl4⟩ (by omega) hq1).mono ?_
                rintro e w3 ⟨rfl, hs3⟩
                have hI2 := HX.out
                generalize takeF val q l = y at *
                obtain ⟨y1, y2, y3⟩ := y
                have SPR3 := Aside0.mk hs3
                clear hs3 HX SPR
                cases y1
                · have he : some ([], true, 0) = some (r1, r2, r3) := hI2
                  injection he with he
                  simp only [Prod.mk.injEq] at he
                  obtain ⟨rfl, rfl, rfl⟩ := he
                  clear hI2
                  go_wp2
                  go_ret3
                  exact ⟨_, rfl, World.ownsRow_nil _ _ _ _, SPR3.out.below⟩
                · have HFO := Aside0.mk (show goTake cls K (takeAll y2 y3 (lits.drop (k' + 1))) = some (r1, r2, r3) from hI2)
                  clear hI2
                  go_wp2
                  go_roundg k2
                  case measure => omega
                  case rel => exact ⟨k' + 1, y2, y3, by have := HJ.out; omega, by go_num, HFO, INV2, SPR3⟩
          | succ k1 =>
            have hlt : (k : Int) < (cls.length : Int) := by omega
            have hlt' : k < cls.length := by omega
            obtain ⟨ad, A0, c0, e, hx, hl, hin⟩ := at_KL (Kd.C_below HR.out BLD.out.below) k hlt'
            obtain ⟨ad', A0', c0', e', hx', hl', hin'⟩ := at_KL HR.out k hlt'
            cases e
            cases e'
            have hsame := (BLD.out.below.cell (World.block_lt_of_cell? w _ hx')).symm.trans hx
            rw [hx'] at hsame
            have e2 : A0' = A0 ∧ c0' = c0 := by simpa using hsame
            obtain ⟨rfl, rfl⟩ := e2
            have hd : cls.drop k = rdL cls k :: cls.drop (k + 1) := by rw [List.drop_eq_getElem_cons hlt']; simp [rdL, hlt']
            have HA2 := Aside0.mk (show atAll cls = addAll (rdL cls k :: cls.drop (k + 1)) k a by rw [← hd]; exact HA.out)
            obtain ⟨hx128, hxl⟩ := H4.out _ (rdL_mem hlt')
            have HXL := Aside0.mk hxl
            have HLc := Aside0.mk hl
            have HIN := Aside0.mk hin'
            have HK := Aside0.mk hk
            clear hl hin hk hd HA hl' hin' hx' hsame hxl
            generalize rdL cls k = x at *
            simp only [addAll] at HA2
            go_wp2_with fail
            go_loopg [11, 44] x.length (fun kq v11 v44 w2 => ∃ (j : Nat) (a : Int → List Int) (L : List (Int × Value)), j + kq = x.length ∧ v44 = .int .i64 j ∧ Aside0 (atAll cls = addAll (cls.drop (k + 1)) (k + 1) (addC k (x.drop j) a)) ∧ Aside0 (∀ y, (a y).length ≤ 128 * k + j) ∧ Aside0 (Bld w g bv m (some ad) c cls a L w2 (zerosL (n + 1))))
            case atStart => exact ⟨0, a, L, by simp, rfl, HA2, HN, BLD⟩
            case round =>
              clear BLD HA2 HN hx
              obtain ⟨j, a, L, hj, rfl, HA, HN, BLD⟩ := hrel
              cases gk with
              | zero =>
                have hge : ¬ ((j : Int) < (x.length : Int)) := by omega
                have hat : atAll cls = addAll (cls.drop (k + 1)) ((k + 1 : Nat) : Int) a := by rw [HA.out, List.drop_of_length_le (l := x) (by omega)]; rfl
                have HAT := Aside0.mk hat
                have HN2 := Aside0.mk (show ∀ y, (a y).length ≤ 128 * (k + 1) from fun y => by have := HN.out y; omega)
                clear hat HA HN
                go_wp2
                go_roundg k1
                case measure => omega
                case rel => exact ⟨k + 1, a, L, by have := HK.out; omega, by go_num, HAT, HN2, BLD⟩
              | succ k2 =>
                have hlt : (j : Int) < (x.length : Int) := by omega
                have hlt' : j < x.length := by omega
                obtain ⟨ad2, e, hx2⟩ := Kd.at_int (Kd.C_below HIN.out BLD.out.below) j (by omega) hlt
                cases e
                rw [Int.toNat_natCast] at hx2
                have hd : x.drop j = rd x j :: x.drop (j + 1) := by rw [List.drop_eq_getElem_cons hlt']; simp [rd, hlt']
                have hmem : rd x j ∈ x := by simp only [rd, Int.toNat_natCast, List.getD_eq_getElem?_getD, List.getElem?_eq_getElem hlt', Option.getD_some]; exact List.getElem_mem _
                have hls := absI_range (HXL.out _ hmem) ⟨h1, h2⟩
                have hA2 := HA.out
                rw [hd] at hA2
                simp only [addC] at hA2
                have HA2 := Aside0.mk hA2
                have HJ := Aside0.mk hj
                obtain ⟨hl1, hl2, hl3, hl4⟩ := hls
                clear hd hmem hA2 HA hj hl1 hl2
                generalize rd x j = l at *
                obtain ⟨hm, hL⟩ := BLD.out.mp
                have hst := BLD.out.st
                have s1 : wr.cell? ⟨g, 1, none⟩ = some (.map (some m)) := by rw [blk_cell hst]; rfl
                have hlk := MapL.run_lookup (hm.drewN 1) (MapL.keyed_int .i64) Tryd.underlying53 Tryd.underlying3 (zero25 _) (-l)
                have hlk' : (Instr.lookup 53 (.map (some m)) (.int .i64 (-l)) false).run Tryd.prog wr.drew = .ok ((MapL.look (-l) L).getD nilS) wr.drew := hlk
                obtain ⟨vl, hvl⟩ : ∃ v, v = (MapL.look (-l) L).getD nilS := ⟨_, rfl⟩
                have hq := hL (-l)
                rw [← hvl] at hlk' hq
                have HVL := Aside0.mk hvl
                have HQ := Aside0.mk hq
                obtain ⟨Av, cv, rfl, hcv⟩ := q_slice hq
                clear hm hL hst hlk hvl hq
                have hna := HN.out (-l)
                go_wp2_with fail
                have hwr : IntKind.i64.wrap (-l) = -l := IntWalk.i64_in _ (by omega)
                have hmm := (BLD.out.drewN 1).mp.1
                refine start_ (n := 17) (S := fun w' => w'.cell? ⟨g, 1, none⟩ = some (.map (some m)) ∧ MapL.Is (Value.int .i64) w' m L) (ds := [16]) #[false, false, false, false, false, false, false, false, false, false, false, false, false, false, false, false, false] (by kernel_rfl) rfl rfl ⟨s1, hmm⟩ (fun hHeld => ?_)
                refine pure_ (i := 0) (N := some 48) (v := ?_) (a' := ?_) #[true, false, false, false, false, false, false, false, false, false, false, false, false, false, false, false, false] rfl rfl (by kernel_rfl) (fun _ _ _ h => h) (Or.inl ⟨by rfl, ?_⟩) ?_ ?_
                rotate_left
                · intro w'
                  go_simp
                  with_reducible rfl
                rotate_left
                · simp only [Act.put, List.setIfInBounds_toArray, List.set_cons_zero, List.set_cons_succ, i64_w, i32_w]
                  rfl
                refine pure_ (i := 1) (N := some 49) (v := ?_) (a' := ?_) #[true, true, false, false, false, false, false, false, false, false, false, false, false, false, false, false, false] rfl rfl (by kernel_rfl) (fun _ _ _ h => h) (Or.inl ⟨by rfl, ?_⟩) ?_ ?_
                rotate_left
                · intro w'
                  go_simp
                  with_reducible rfl
                rotate_left
                · simp only [Act.put, List.setIfInBounds_toArray, List.set_cons_zero, List.set_cons_succ, i64_w, i32_w]
                  rfl
                refine pure_ (i := 2) (N := some 50) (v := ?_) (a' := ?_) #[true, true, true, false, false, false, false, false, false, false, false, false, false, false, false, false, false] rfl rfl (by kernel_rfl) (fun _ _ _ h => h) (Or.inl ⟨by rfl, ?_⟩) ?_ ?_
                rotate_left
                · intro w'
                  go_simp
                  with_reducible rfl
                rotate_left
                · simp only [Act.put, List.setIfInBounds_toArray, List.set_cons_zero, List.set_cons_succ, i64_w, i32_w]
                  rfl
                refine take_ (i := 3) (N := some 51) (v := ?_) (a' := ?_) #[true, true, true, true, false, false, false, false, false, false, false, false, false, false, false, false, false] rfl rfl (by kernel_rfl) (fun _ _ _ h => h) (Or.inl ⟨by rfl, ?_⟩) hHeld ?_ ?_
                rotate_left
                · rintro w' ⟨s0, s1⟩
                  go_simp
                  with_reducible rfl
                rotate_left
                · simp only [Act.put, List.setIfInBounds_toArray, List.set_cons_zero, List.set_cons_succ, i64_w, i32_w]
                  rfl
                refine pure_ (i := 4) (N := some 52) (v := ?_) (a' := ?_) #[true, true, true, true, true, false, false, false, false, false, false, false, false, false, false, false, false] rfl rfl (by kernel_rfl) (fun _ _ _ h => h) (Or.inl ⟨by rfl, ?_⟩) ?_ ?_
                rotate_left
                · intro w'
                  go_simp
                  with_reducible rfl
                rotate_left
                · simp only [Act.put, List.setIfInBounds_toArray, List.set_cons_zero, List.set_cons_succ, i64_w, i32_w]
                  rfl
                refine pure_ (i := 5) (N := some 53) (v := ?_) (a' := ?_) #[true, true, true, true, true, true, false, false, false, false, false, false, false, false, false, false, false] rfl rfl (by kernel_rfl) (fun _ _ _ h => h) (Or.inl ⟨by rfl, ?_⟩) ?_ ?_
                rotate_left
                · intro w'
                  go_simp
                  with_reducible rfl
                rotate_left
                · simp only [Act.put, List.setIfInBounds_toArray, List.set_cons_zero, List.set_cons_succ, i64_w, i32_w]
                  rfl
                refine pure_ (i := 6) (N := some 54) (v := ?_) (a' := ?_) #[true, true, true, true, true, true, true, false, false, false, false, false, false, false, false, false, false] rfl rfl (by kernel_rfl) (fun _ _ _ h => h) (Or.inl ⟨by rfl, ?_⟩) ?_ ?_
                rotate_left
                · intro w'
                  go_simp
                  with_reducible rfl
                rotate_left
                · simp only [Act.put, List.setIfInBounds_toArray, List.set_cons_zero, List.set_cons_succ, i64_w, i32_w]
                  rfl
                refine pure_ (i := 7) (N := some 55) (v := ?_) (a' := ?_) #[true, true, true, true, true, true, true, true, false, false, false, false, false, false, false, false, false] rfl rfl (by kernel_rfl) (fun _ _ _ h => h) (Or.inl ⟨by rfl, ?_⟩) ?_ ?_
                rotate_left
                · intro w'
                  go_simp
                  with_reducible rfl
                rotate_left
                · simp only [Act.put, List.setIfInBounds_toArray, List.set_cons_zero, List.set_cons_succ, i64_w, i32_w]
                  rfl
                refine pure_ (i := 8) (N := some 56) (v := ?_) (a' := ?_) #[true, true, true, true, true, true, true, true, true, false, false, false, false, false, false, false, false] rfl rfl (by kernel_rfl) (fun _ _ _ h => h) (Or.inl ⟨by rfl, ?_⟩) ?_ ?_
                rotate_left
                · intro w'
                  go_simp
                  with_reducible rfl
                rotate_left
                · simp only [Act.put, List.setIfInBounds_toArray, List.set_cons_zero, List.set_cons_succ, i64_w, i32_w]
                  rfl
                refine take_ (i := 9) (N := some 57) (v := ?_) (a' := ?_) #[true, true, true, true, true, true, true, true, true, true, false, false, false, false, false, false, false] rfl rfl (by kernel_rfl) (fun _ _ _ h => h) (Or.inl ⟨by rfl, ?_⟩) hHeld ?_ ?_
                rotate_left
                · rintro w' ⟨s0, s1⟩
                  go_simp
                  with_reducible rfl
                rotate_left
                · simp only [Act.put, List.setIfInBounds_toArray, List.set_cons_zero, List.set_cons_succ, i64_w, i32_w]
                  rfl
                refine pure_ (i := 10) (N := some 58) (v := ?_) (a' := ?_) #[true, true, true, true, true, true, true, true, true, true, true, false, false, false, false, false, false] rfl rfl (by kernel_rfl) (fun _ _ _ h => h) (Or.inl ⟨by rfl, ?_⟩) ?_ ?_
                rotate_left
                · intro w'
                  go_simp
                  with_reducible rfl
                rotate_left
                · simp only [Act.put, List.setIfInBounds_toArray, List.set_cons_zero, List.set_cons_succ, i64_w, i32_w]
                  rfl
                refine pure_ (i := 11) (N := some 59) (v := ?_) (a' := ?_) #[true, true, true, true, true, true, true, true, true, true, true, true, false, false, false, false, false] rfl rfl (by kernel_rfl) (fun _ _ _ h => h) (Or.inl ⟨by rfl, ?_⟩) ?_ ?_
                rotate_left
                · intro w'
                  go_simp
                  with_reducible rfl
                rotate_left
                · simp only [Act.put, List.setIfInBounds_toArray, List.set_cons_zero, List.set_cons_succ, i64_w, i32_w]
                  rfl
                refine take_ (i := 12) (N := some 60) (v := ?_) (a' := ?_) #[true, true, true, true, true, true, true, true, true, true, true, true, true, false, false, false, false] rfl rfl (by kernel_rfl) (fun _ _ _ h => h) (Or.inl ⟨by rfl, ?_⟩) hHeld ?_ ?_
                rotate_left
                · rintro w' ⟨s0, s1⟩
                  (have hlk2 := MapL.run_lookup s1 (MapL.keyed_int .i64) Tryd.underlying53 Tryd.underlying3 (zero25 _) (-l); rw [← HVL.out] at hlk2; go_simp; with_reducible rfl)
                rotate_left
                · simp only [Act.put, List.setIfInBounds_toArray, List.set_cons_zero, List.set_cons_succ, i64_w, i32_w]
                  rfl
                refine pure_ (i := 13) (N := some 61) (v := ?_) (a' := ?_) #[true, true, true, true, true, true, true, true, true, true, true, true, true, true, false, false, false] rfl rfl (by kernel_rfl) (fun _ _ _ h => h) (Or.inl ⟨by rfl, ?_⟩) ?_ ?_
                rotate_left
                · intro w'
                  go_simp
                  with_reducible rfl
                rotate_left
                · simp only [Act.put, List.setIfInBounds_toArray, List.set_cons_zero, List.set_cons_succ, i64_w, i32_w]
                  rfl
                clear hwr
                have BLD1 := Aside0.mk (BLD.out.drewN 1)
                have s1' : wr.drew.cell? ⟨g, 1, none⟩ = some (.map (some m)) := s1
                clear s1 hlk' hx2 BLD hmm
                generalize hW : wr.drew = W3 at *
                rw [show wr.drewN 1 = W3 from hW] at BLD1
                have HQ3 := Aside0.mk (BLD1.out.mp.2 (-l))
                rw [← HVL.out] at HQ3
                clear hW HQ
                obtain ⟨i0, hi, hz0, hz1, hz2⟩ := info_parts info3
                refine one_ (i := 14) (N := some 62) #[true, true, true, true, true, true, true, true, true, true, true, true, true, true, true, false, false] rfl rfl (by kernel_rfl) (by decide) (fun K hK => ?_)
                refine value_ (v := ?_) (w1 := W3.alloc (.cells #[.int .i64 k] 3)) (by rfl) rfl ?_ ?_
                rotate_left
                · go_simp
                  with_reducible rfl
                refine hK.out _ _ ⟨pw_cell_below (below_alloc (Below.refl _ _) _) s1', BLD1.out.mp.1.alloc _⟩ (fun hHeld => ?_)
                clear hK K
                refine norm_ (a' := ?_) ?_ ?_
                rotate_left
                · show Act.put _ (some 62) _ = _
                  simp only [Act.put, List.setIfInBounds_toArray, List.set_cons_zero, List.set_cons_succ, i64_w, i32_w]
                  rfl
                refine one_ (i := 15) (N := some 63) #[true, true, true, true, true, true, true, true, true, true, true, true, true, true, true, true, false] rfl rfl (by kernel_rfl) (by decide) (fun K hK => ?_)
                refine append_q_at _ (by rfl) rfl _ _ 25 rfl w.heap.size 3 i0 (.int .i64 0) 1 8 Tryd.underlying25 hi hz0 hz1 hz2 rfl (by decide) (.slice Av (a (-l)).length cv) (a (-l)).length (nums .i64 (a (-l))) (by rfl) ?_ ⟨W3.heap.size, 0, none⟩ 1 1 [.int .i64 k] (by rfl) rfl (cell_new1 _ _ _ _ rfl) (by simp [Value.oneCell']) (by decide) (by simp only [maxLen]; omega) (by omega) ?_ ?_
                · exact q_move HQ3.out (fun k hk => Below.heap_alloc _ _ _ (q_lt HQ3.out k hk))
                · have := BLD1.out.below.size; simp; omega
                intro v' w1' hq' hg' hat'
                obtain ⟨A', c', rfl, _⟩ := q_slice hq'
                have hg2 : (World.alloc W3 (.cells #[.int .i64 k] 3)).grownBy w1' ((MapL.look (-l) L).getD nilS).ownBlock := by rw [← HVL.out]; exact hg'
                have hm4 := BLD1.out.grown (-l) _ hg2
                obtain ⟨w5, hup, hm5, hg5⟩ := MapL.run_update hm4 (MapL.keyed_int .i64) Tryd.underlying53 Tryd.underlying3 (-l) (.slice A' ((a (-l)).length + 1) c')
                have BLD5 := Aside0.mk (BLD1.out.added (-l) k _ hg2 hq' (by rw [← HVL.out]; exact hat') hm5 hg5)
                have s4 : w1'.cell? ⟨g, 1, none⟩ = some (.map (some m)) := by
                  have h4 := blk_grown (blk_alloc BLD1.out.st (.cells #[.int .i64 k] 3)) hg' (fun e => typed_ne HQ3.out BLD1.out.st (by decide) g e.symm rfl)
                  rw [blk_cell h4]
                  rfl
                refine hK.out _ _ ⟨s4, hm4⟩ (fun hHeld => ?_)
                clear hK K hq' hg' hat' hg2 hm5 hg5 BLD1 s4 hm4
                refine norm_ (a' := ?_) ?_ ?_
                rotate_left
                · show Act.put _ (some 63) _ = _
                  simp only [Act.put, List.setIfInBounds_toArray, List.set_cons_zero, List.set_cons_succ, i64_w, i32_w]
                  rfl
                refine last_ (i := 16) (N := none) #[true, true, true, true, true, true, true, true, true, true, true, true, true, true, true, true, true] rfl rfl (by kernel_rfl) (by decide) (fun K hK => ?_)
                refine skip_ (w1 := w5) (by rfl) rfl ?_ ?_
                rotate_left
                · refine hK.out _ _ ?_
                  clear hK K
                  refine done_ (by kernel_rfl) ?_
                  have HN2 := Aside0.mk (show ∀ y, (addAt a (-l) k y).length ≤ 128 * k + (j + 1) from fun y => by
                    have := HN.out y
                    unfold addAt
                    split
                    · rw [List.length_append, List.length_cons, List.length_nil]; omega
                    · omega)
                  go_wp2
                  go_roundg k2
                  case measure => omega
                  case rel => exact ⟨j + 1, addAt a (-l) k, _, by have := HJ.out; omega, by go_num, HA2, HN2, BLD5⟩
                · first | (go_simp; done) | (go_simp; with_reducible rfl)
  · have hfo := HFO.out
    simp only [followF, hz] at hfo
    have he : r1 = [] ∧ r2 = false ∧ r3 = 150 := by simpa [eq_comm] using hfo
    obtain ⟨rfl, rfl, rfl⟩ := he
    rw [hz]
    clear hz HFO hfo
    go_wp2
    go_ret3
    exact ⟨_, rfl, World.ownsRow_nil _ _ _ _, HB.out⟩
end Go.Proofs.YtifhiloeghmfiaaDoor.Cnf
