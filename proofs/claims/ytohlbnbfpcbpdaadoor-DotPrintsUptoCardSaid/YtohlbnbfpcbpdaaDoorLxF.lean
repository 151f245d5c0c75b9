/- strconv.FormatInt at base 16 below 32: the walk. -/
import Derived.Test.YtohlbnbfpcbpdaaDoorLxC
import Derived.Handy
set_option linter.unusedVariables false
set_option linter.unusedSimpArgs false
namespace Go.Proofs.YtohlbnbfpcbpdaaDoor.Lx
open Go.RowKit Go.Proofs.YtohlbnbfpcbpdaaDoorW.PrintWords Go.Proofs.YtohlbnbfpcbpdaaDoorW.PrintLast Go.Proofs.YtohlbnbfpcbpdaaDoorW.PrintMore

/-- The table's one cell that is read. -/
def DeB (w : World) : Prop := w.cell? ⟨5, 15, none⟩ = some (.int .u8 4)
theorem cell_below' {w w' : World} {a : Addr} {v : Value} (hb : Below w.heap.size w w') (h : w.cell? a = some v) : w'.cell? a = some v := by
  have hlt : a.block < w.heap.size := by
    rcases Nat.lt_or_ge a.block w.heap.size with h' | h'
    · exact h'
    · simp [World.cell?, Array.getElem?_eq_none h'] at h
  rw [World.cell?_of_block (hb.block _ hlt)]
  exact h
theorem tz_calls (w : World) (h : DeB w) : Calls Tryd.prog 86 #[.int .u64 16] w fun e w' => e = .returned (.int .i64 4) ∧ w' = w := by
  unfold DeB at h
  have k1 : IntKind.u64.wrap (bits BinOp.and IntKind.u64 16 (IntKind.u64.wrap (-16)) * 285870213051353865) / 288230376151711744 = 15 := by decide +kernel
  go_enter Tryd.func86, Tryd.ntmps86
  go_wp2
  go_ret
  exact ⟨rfl, rfl⟩
theorem tz_any (w : World) (h : DeB w) : Calls Tryd.prog 73 #[.int .u64 16] w fun e w' => e = .returned (.int .i64 4) ∧ w' = w := by
  have H := Aside0.mk h
  clear h
  go_enter Tryd.func73, Tryd.ntmps73
  go_wp2_with fail
  refine (tz_calls _ H.out).mono ?_
  rintro e w' ⟨rfl, rfl⟩
  go_wp2
  go_ret
  exact ⟨rfl, rfl⟩
theorem pow2_calls (w : World) : Calls Tryd.prog 72 #[.int .i64 16] w fun e w' => e = .returned (.bool true) ∧ w' = w := by
  have k1 : (bits BinOp.and IntKind.i64 16 15 == 0) = true := by decide +kernel
  go_enter Tryd.func72, Tryd.ntmps72
  go_wp2
  go_ret
  exact ⟨rfl, rfl⟩
def dig36 : ByteArray := ⟨#[48, 49, 50, 51, 52, 53, 54, 55, 56, 57, 97, 98, 99, 100, 101, 102, 103, 104, 105, 106, 107, 108, 109, 110, 111, 112, 113, 114, 115, 116, 117, 118, 119, 120, 121, 122]⟩
theorem dig36_hex : ∀ u, (h : u < 16) → dig36[u]'(Nat.lt_of_lt_of_le h (by decide)) = hexC u := by decide +kernel
theorem and15 : ∀ u : Nat, u < 16 → bits BinOp.and IntKind.u64 ((u : Int) + 16) 15 = (u : Int) := by decide +kernel
theorem zc_size : Tryd.zeroCells103.size = 65 := by kernel_rfl
theorem conv1 (w : World) (c : UInt8) : (convert 40 9 (.slice (some ⟨w.heap.size, 64, none⟩) 1 1)).run Tryd.prog (w.alloc (.cells (Tryd.zeroCells103.setIfInBounds 64 (.int .u8 c.toNat)) 103)) =
    .ok (.string ⟨#[c]⟩) (w.alloc (.cells (Tryd.zeroCells103.setIfInBounds 64 (.int .u8 c.toNat)) 103)) := by
  refine run_convert_bytes_back _ 40 9 5 ⟨w.heap.size, 64, none⟩ 1 [c] Tryd.underlying40 Tryd.underlying5 Tryd.underlying9 (fun j hj => ?_)
  have hj0 : j = 0 := by simp at hj; exact hj
  subst hj0
  simp [World.cell?, World.alloc, -World.alloc_eq, Addr.add, zc_size]
theorem conv2 (w : World) (b c : UInt8) : (convert 40 9 (.slice (some ⟨w.heap.size, 63, none⟩) 2 2)).run Tryd.prog (w.alloc (.cells ((Tryd.zeroCells103.setIfInBounds 64 (.int .u8 c.toNat)).setIfInBounds 63 (.int .u8 b.toNat)) 103)) =
    .ok (.string ⟨#[b, c]⟩) (w.alloc (.cells ((Tryd.zeroCells103.setIfInBounds 64 (.int .u8 c.toNat)).setIfInBounds 63 (.int .u8 b.toNat)) 103)) := by
  refine run_convert_bytes_back _ 40 9 5 ⟨w.heap.size, 63, none⟩ 2 [b, c] Tryd.underlying40 Tryd.underlying5 Tryd.underlying9 (fun j hj => ?_)
  have hj0 : j = 0 ∨ j = 1 := by simp at hj; omega
  rcases hj0 with rfl | rfl
  · simp [World.cell?, World.alloc, -World.alloc_eq, Addr.add, zc_size]
  · simp [World.cell?, World.alloc, -World.alloc_eq, Addr.add, zc_size]
set_option maxRecDepth 100000 in
set_option maxHeartbeats 2000000 in
theorem bits_one (u : Nat) (hu : u < 16) (w : World) (h : DeB w) : Calls Tryd.prog 57 #[.slice none 0 0, .int .u64 u, .int .i64 16, .bool false, .bool false] w fun e w' => e = .returned (.tuple #[.slice none 0 0, .string ⟨#[hexC u]⟩]) ∧ Below w.heap.size w w' := by
  have H := Aside0.mk h
  clear h
  go_enter Tryd.func57, Tryd.ntmps57
  go_wp2_with fail
  refine (pow2_calls _).mono ?_
  rintro e w' ⟨rfl, rfl⟩
  go_wp2_with fail
  have HD := fun (o : Obj) => Aside0.mk (show DeB (w.alloc o) from ((Below.refl w.heap.size w).alloc (Nat.le_refl _) o |> cell_below' <| H.out))
  refine (tz_any _ (HD _).out).mono ?_
  rintro e w' ⟨rfl, rfl⟩
  have hlt : ¬ (16 : Int) ≤ (u : Int) := by omega
  go_wp2
  have hcv := conv1 w (dig36[u]'(Nat.lt_of_lt_of_le hu (by decide)))
  rw [dig36_hex u hu] at hcv
  have hdg : (dig36[u]'(Nat.lt_of_lt_of_le hu (by decide))) = hexC u := dig36_hex u hu
  unfold dig36 at hdg
  go_rounds 1
  go_ret2
  exact ⟨rfl, (Below.refl _ _).alloc (Nat.le_refl _) _⟩
set_option maxRecDepth 100000 in
set_option maxHeartbeats 2000000 in
theorem bits_two (u : Nat) (hu : u < 16) (w : World) (h : DeB w) : Calls Tryd.prog 57 #[.slice none 0 0, .int .u64 ((u : Int) + 16), .int .i64 16, .bool false, .bool false] w fun e w' => e = .returned (.tuple #[.slice none 0 0, .string ⟨#[49, hexC u]⟩]) ∧ Below w.heap.size w w' := by
  have H := Aside0.mk h
  clear h
  go_enter Tryd.func57, Tryd.ntmps57
  go_wp2_with fail
  refine (pow2_calls _).mono ?_
  rintro e w' ⟨rfl, rfl⟩
  go_wp2_with fail
  have HD := fun (o : Obj) => Aside0.mk (show DeB (w.alloc o) from ((Below.refl w.heap.size w).alloc (Nat.le_refl _) o |> cell_below' <| H.out))
  refine (tz_any _ (HD _).out).mono ?_
  rintro e w' ⟨rfl, rfl⟩
  have hlt : (16 : Int) ≤ (u : Int) + 16 := by omega
  have hand : bits BinOp.and IntKind.u64 ((u : Int) + 16) 15 = (u : Int) := and15 u hu
  have hdiv : ((u : Int) + 16) / 16 = 1 := by omega
  go_wp2
  have hcv := conv2 w (dig36[1]'(by decide)) (hexC u)
  rw [show (ByteArray.mk [dig36[1]'(by decide), hexC u].toArray) = ⟨#[49, hexC u]⟩ from rfl] at hcv
  unfold dig36 at hcv
  have hdg : (dig36[u]'(Nat.lt_of_lt_of_le hu (by decide))) = hexC u := dig36_hex u hu
  unfold dig36 at hdg
  go_rounds 2
  go_ret2
  exact ⟨rfl, (Below.refl _ _).alloc (Nat.le_refl _) _⟩
theorem hexI_one (u : Nat) (hu : u < 16) (w : World) (h : DeB w) : Calls Tryd.prog 46 #[.int .i64 ((u : Int)), .int .i64 16] w fun e w' => e = .returned (.string ⟨#[hexC u]⟩) ∧ Below w.heap.size w w' := by
  have H := Aside0.mk h
  clear h
  have h0 : (0 : Int) ≤ (u : Int) := by omega
  have h1 : ¬ ((u : Int) : Int) < 0 := by omega
  go_enter Tryd.func46, Tryd.ntmps46
  go_wp2_with fail
  refine (bits_one u hu _ H.out).mono ?_
  rintro e w' ⟨rfl, hb⟩
  have HB := Aside0.mk hb
  clear hb
  go_wp2
  go_ret
  exact ⟨rfl, HB.out⟩
theorem hex_one (u : Nat) (hu : u < 16) (w : World) (h : DeB w) : Calls Tryd.prog 34 #[.int .i64 ((u : Int)), .int .i64 16] w fun e w' => e = .returned (.string ⟨#[hexC u]⟩) ∧ Below w.heap.size w w' := by
  have H := Aside0.mk h
  clear h
  go_enter Tryd.func34, Tryd.ntmps34
  go_wp2_with fail
  refine (hexI_one u hu _ H.out).mono ?_
  rintro e w' ⟨rfl, hb⟩
  have HB := Aside0.mk hb
  clear hb
  go_wp2
  go_ret
  exact ⟨rfl, HB.out⟩
theorem hexI_two (u : Nat) (hu : u < 16) (w : World) (h : DeB w) : Calls Tryd.prog 46 #[.int .i64 ((u : Int) + 16), .int .i64 16] w fun e w' => e = .returned (.string ⟨#[49, hexC u]⟩) ∧ Below w.heap.size w w' := by
  have H := Aside0.mk h
  clear h
  have h0 : (0 : Int) ≤ (u : Int) + 16 := by omega
  have h1 : ¬ ((u : Int) + 16 : Int) < 0 := by omega
  go_enter Tryd.func46, Tryd.ntmps46
  go_wp2_with fail
  refine (bits_two u hu _ H.out).mono ?_
  rintro e w' ⟨rfl, hb⟩
  have HB := Aside0.mk hb
  clear hb
  go_wp2
  go_ret
  exact ⟨rfl, HB.out⟩
theorem hex_two (u : Nat) (hu : u < 16) (w : World) (h : DeB w) : Calls Tryd.prog 34 #[.int .i64 ((u : Int) + 16), .int .i64 16] w fun e w' => e = .returned (.string ⟨#[49, hexC u]⟩) ∧ Below w.heap.size w w' := by
  have H := Aside0.mk h
  clear h
  go_enter Tryd.func34, Tryd.ntmps34
  go_wp2_with fail
  refine (hexI_two u hu _ H.out).mono ?_
  rintro e w' ⟨rfl, hb⟩
  have HB := Aside0.mk hb
  clear hb
  go_wp2
  go_ret
  exact ⟨rfl, HB.out⟩
end Go.Proofs.YtohlbnbfpcbpdaaDoor.Lx
