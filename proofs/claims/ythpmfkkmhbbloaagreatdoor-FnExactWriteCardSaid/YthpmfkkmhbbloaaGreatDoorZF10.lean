/- Texts of this proof, merged: HexT, Big1. No condition beyond what each theorem states. -/
import Derived.Test.YthpmfkkmhbbloaaGreatDoorRows
import Derived.WalkKit
import Derived.ProofKit
import Derived.OpenShut
import Derived.Handy
import Derived.Lib.Hide
import Derived.Lib.SmallJoins
import Derived.Laws.BytesArg
import Derived.Deep.RegionHeld3
import Derived.Deep.AppendLies
import Derived.Deep.RegionLaw
import Derived.Deep.QuietTactic
import Derived.BigQuiet
import Derived.Lib.ValidAsc
import Derived.Test.YthpmfkkmhbbloaaGreatDoorZF1
import Derived.Test.YthpmfkkmhbbloaaGreatDoorZF2
import Derived.Test.YthpmfkkmhbbloaaGreatDoorZF3
import Derived.Test.YthpmfkkmhbbloaaGreatDoorZF7
import Derived.Test.YthpmfkkmhbbloaaGreatDoorZF9
import Derived.Test.YthpmfkkmhbbloaaGreatDoorZF4
import Derived.Test.YthpmfkkmhbbloaaGreatDoorZF5
set_option linter.unusedSimpArgs false
set_option linter.unnecessarySimpa false
namespace Go.Proofs.YthpmfkkmhbbloaaGreatDoor
open Go.ChangeShapes Go.WideShapes Go.ChangeAt Go.RowKit Go.Joins
set_option linter.unusedVariables false
set_option maxRecDepth 100000
/-- The number of a hexadecimal digit's sign. -/
def hexD (k : Int) : Int := if k < 10 then 48 + k else 87 + k
def hexL : List UInt8 → List Int
  | [] => []
  | b :: r => hexD ((b.toNat : Int) / 16) :: hexD ((b.toNat : Int) % 16) :: hexL r
theorem hexL_append (a b : List UInt8) : hexL (a ++ b) = hexL a ++ hexL b := by
  induction a with
  | nil => rfl
  | cons x r ih => simp [hexL, ih]
theorem hexL_len (a : List UInt8) : (hexL a).length = 2 * a.length := by
  induction a with
  | nil => rfl
  | cons x r ih => simp [hexL, ih]; omega
theorem hexD_u8 (k : Int) (h0 : 0 ≤ k) (h : k < 16) : U8 (hexD k) := by
  unfold hexD U8; split <;> omega
theorem hexL_succ (s : ByteArray) (j : Nat) (h : j < s.size) : hexL (s.data.toList.take (j + 1)) = hexL (s.data.toList.take j) ++ [hexD (((s[j]'h).toNat : Int) / 16), hexD (((s[j]'h).toNat : Int) % 16)] := by
  have hl : j < s.data.toList.length := by rw [← Lib.size_eq]; exact h
  rw [take_snoc _ j hl, hexL_append]; rfl
theorem hex_dig (k : Int) (h0 : 0 ≤ k) (h : k < 16) : ∀ hh : k.toNat < (⟨#[48, 49, 50, 51, 52, 53, 54, 55, 56, 57, 97, 98, 99, 100, 101, 102]⟩ : ByteArray).size, ((((⟨#[48, 49, 50, 51, 52, 53, 54, 55, 56, 57, 97, 98, 99, 100, 101, 102]⟩ : ByteArray))[k.toNat]'hh).toNat : Int) = hexD k := by
  obtain rfl | rfl | rfl | rfl | rfl | rfl | rfl | rfl | rfl | rfl | rfl | rfl | rfl | rfl | rfl | rfl : k = 0 ∨ k = 1 ∨ k = 2 ∨ k = 3 ∨ k = 4 ∨ k = 5 ∨ k = 6 ∨ k = 7 ∨ k = 8 ∨ k = 9 ∨ k = 10 ∨ k = 11 ∨ k = 12 ∨ k = 13 ∨ k = 14 ∨ k = 15 := by omega
  all_goals intro hh; rfl
theorem and15 : ∀ X : Fin 256, bits .and .u8 ((X.val : Nat) : Int) 15 = ((X.val : Nat) : Int) % 16 := by decide
/-- A text's bytes in hexadecimal digits. -/
def hexT (s : ByteArray) : ByteArray := strOfNums (hexL s.data.toList)
theorem info_Byte2 : (Tryz.prog.info? 5).map (fun i => (i.zero, i.size, i.bytes)) = some (some (.int .u8 0), 1, 1) := by kernel_rfl
theorem make_cap {P : Program} {t e : TypeId} {z : Value} {size bytes : Nat} {cs : Array Value} (ht : P.underlying t = some (.slice e)) (hinfo : (P.info? e).map (fun i => (i.zero, i.size, i.bytes)) = some (some z, size, bytes)) (hcs : z.cells = cs)
    (n : Nat) (x : Int) (hx : x = n) (h : bytes * n ≤ 281474976710656) (h2 : n ≤ 9223372036854775807) (w : World) :
    (Instr.makeSlice t (.int .i64 0) (.int .i64 x)).run P w = .ok (.slice (some ⟨w.heap.size, 0, none⟩) 0 n) (w.alloc (.cells (madeCells cs (n * size)) e)) := by
  obtain ⟨i, hi, hz0, hz1, hz2⟩ := info_parts hinfo
  subst hz1 hz2 hcs hx
  have := run_make w t e i z ht hi hz0 .i64 .i64 0 (n : Int) (by omega) (by omega) (by rw [← Int.natCast_mul]; omega) (by omega)
  simpa using this
theorem AppL.made {E : World → Nat → Nat → Int → List Nat → Prop} {e : TypeId} (w : World) (rlo n : Nat) (v : Value) (hl : rlo ≤ w.heap.size) (hn : n ≤ maxLen) : AppL E 1 e (w.alloc (.cells (madeCells #[v] (n * 1)) e)) rlo (Option.some ⟨w.heap.size, 0, none⟩) n [] [] :=
  Or.inr ⟨w.heap.size, madeCells #[v] (n * 1), rfl, hl, heap_alloc_new w _, Nat.zero_le _, hn, size_madeCells _ _, rfl, by simp⟩
/-- A row of bytes, as a string. -/
theorem conv_bytes (w : World) (rlo : Nat) (a : Option Addr) (cap : Nat) (l : List Int) (F : List Nat) (h : AppL EByte 1 5 w rlo a cap l F) :
    (convert 33 9 (.slice a l.length cap)).run Tryz.prog w = .ok (.string (strOfNums l)) w := by
  rcases h with ⟨rfl, rfl, rfl, _⟩ | ⟨g, cur, rfl, h1, h3, h4, h5, h6, h7, h8⟩
  · exact run_convert_bytes_nil w 33 5 Tryz.underlying33 Tryz.underlying5 0 0 9 Tryz.underlying9
  · exact run_convert_bytes_arg w 33 5 Tryz.underlying33 Tryz.underlying5 g 0 l.length cap l rfl (fun i hi => by
      obtain ⟨F', hv, _⟩ := h7.get i hi
      have := hv.2.1
      rw [Nat.mul_one] at this
      rw [this, List.getD_eq_getElem?_getD, List.getElem?_eq_getElem hi]; rfl) 9 Tryz.underlying9
set_option maxHeartbeats 4000000 in
theorem spec_HexText (s : ByteArray) (w : World) (hs : s.size ≤ 1048576) :
    Calls Tryz.prog 138 #[.string s] w fun e w' => e = .returned (.string (hexT s)) ∧ Below w.heap.size w w' := by
  have h0 := AppL.empty (E := EByte) (n := 1) (e := 5) w w.heap.size (Nat.le_refl _)
  go_enter Tryz.func138, Tryz.ntmps138
  go_wp2_with fail
  go_loopw [3, 4] (fun q i wr => ∃ (j : Nat) (ar : Option Addr) (cr : Nat), j ≤ s.size ∧ i = .int .i64 j ∧ q = .slice ar (hexL (s.data.toList.take j)).length cr ∧ AppL EByte 1 5 wr w.heap.size ar cr (hexL (s.data.toList.take j)) [] ∧ Below w.heap.size w wr) (fun _ i _ => s.size - (intOf i).toNat)
  case atStart => exact ⟨0, _, _, Nat.zero_le _, rfl, rfl, h0, below1 _ _⟩
  case round =>
    obtain ⟨j, ar, cr, hj, rfl, rfl, happ, hb⟩ := hrel
    have hbs := hb.size
    have HA := Lib.hid happ; clear happ
    by_cases hlt : j < s.size
    · have HLEN := Lib.hid (Lib.size_eq s)
      have hlen : (hexL (s.data.toList.take j)).length = 2 * j := by rw [hexL_len, List.length_take]; have := HLEN.out; omega
      have hx := (s[j]'hlt).toNat_lt
      have hand := and15 ⟨(s[j]'hlt).toNat, hx⟩
      simp only at hand
      have hc1 : 0 ≤ ((s[j]'hlt).toNat : Int) / 16 ∧ ((s[j]'hlt).toNat : Int) / 16 < 16 := by omega
      have hc2 : 0 ≤ ((s[j]'hlt).toNat : Int) % 16 ∧ ((s[j]'hlt).toNat : Int) % 16 < 16 := by omega
      have hv1 := hex_dig _ hc1.1 hc1.2
      have hv2 := hex_dig _ hc2.1 hc2.2
      have HS := Lib.hid (hexL_succ s j hlt)
      have HU1 := Lib.hid (hexD_u8 _ hc1.1 hc1.2)
      have HU2 := Lib.hid (hexD_u8 _ hc2.1 hc2.2)
      go_wp2_with fail
      refine wp_region_held_drew (S := fun w' => (∀ b o, b < w.heap.size → w'.cell? ⟨b, o, none⟩ = wr.cell? ⟨b, o, none⟩) ∧ Below (w.heap.size) wr w') (by kernel_rfl) (by first | exact ⟨fun _ _ _ => rfl, (Below.refl _ _).drew⟩ | exact keep_step (by assumption) (Below.drew (Below.refl _ _)) (Nat.le_refl _) | exact keep_step (by assumption) (by assumption) (by first | omega | (simp only [World.size_drew]; omega) | (simp only [size_alloc]; omega) | (simp only [World.size_drew, size_alloc]; omega) | (have := (‹(_ ∧ Below (w.heap.size) wr _)›).2.size; first | omega | (simp only [World.size_drew]; omega) | (simp only [size_alloc]; omega) | (simp only [World.size_drew, size_alloc]; omega) | (simp only [World.size_drew] at this; omega) | (simp only [size_alloc] at this; omega) | (simp only [World.size_drew, size_alloc] at this; omega)))) (fun hHeld => ?_)
      refine wpAnyH_take (i := 0) (oi := ⟨some 12, _, _, _, _, _⟩) (v := ?_) rfl (by kernel_rfl) (by kernel_rfl) (by kernel_rfl) (fun _ _ _ h => h) (Or.inl ⟨by rfl, ?_⟩) (by assumption) ?_
      rotate_left 1
      · (intro w hSw; (try dsimp only at hSw); go_simp; (try simp only [hand, dif_pos hc1, dif_pos hc2, hv1, hv2]); try (with_reducible rfl))
      try simp only [Act.put, List.setIfInBounds_toArray, List.set_cons_zero, List.set_cons_succ]
      refine wpAnyH_take (i := 1) (oi := ⟨some 13, _, _, _, _, _⟩) (v := ?_) rfl (by kernel_rfl) (by kernel_rfl) (by kernel_rfl) (fun _ _ _ h => h) (Or.inl ⟨by rfl, ?_⟩) (by assumption) ?_
      rotate_left 1
      · (intro w hSw; (try dsimp only at hSw); go_simp; (try simp only [hand, dif_pos hc1, dif_pos hc2, hv1, hv2]); try (with_reducible rfl))
      try simp only [Act.put, List.setIfInBounds_toArray, List.set_cons_zero, List.set_cons_succ]
      refine wpAnyH_take (i := 2) (oi := ⟨some 14, _, _, _, _, _⟩) (v := ?_) rfl (by kernel_rfl) (by kernel_rfl) (by kernel_rfl) (fun _ _ _ h => h) (Or.inl ⟨by rfl, ?_⟩) (by assumption) ?_
      rotate_left 1
      · (intro w hSw; (try dsimp only at hSw); go_simp; (try simp only [hand, dif_pos hc1, dif_pos hc2, hv1, hv2]); try (with_reducible rfl))
      try simp only [Act.put, List.setIfInBounds_toArray, List.set_cons_zero, List.set_cons_succ]
      refine wpAnyH_take (i := 3) (oi := ⟨some 15, _, _, _, _, _⟩) (v := ?_) rfl (by kernel_rfl) (by kernel_rfl) (by kernel_rfl) (fun _ _ _ h => h) (Or.inl ⟨by rfl, ?_⟩) (by assumption) ?_
      rotate_left 1
      · (intro w hSw; (try dsimp only at hSw); go_simp; (try simp only [hand, dif_pos hc1, dif_pos hc2, hv1, hv2]); try (with_reducible rfl))
      try simp only [Act.put, List.setIfInBounds_toArray, List.set_cons_zero, List.set_cons_succ]
      refine wpAnyH_take (i := 4) (oi := ⟨some 16, _, _, _, _, _⟩) (v := ?_) rfl (by kernel_rfl) (by kernel_rfl) (by kernel_rfl) (fun _ _ _ h => h) (Or.inl ⟨by rfl, ?_⟩) (by assumption) ?_
      rotate_left 1
      · (intro w hSw; (try dsimp only at hSw); go_simp; (try simp only [hand, dif_pos hc1, dif_pos hc2, hv1, hv2]); try (with_reducible rfl))
      try simp only [Act.put, List.setIfInBounds_toArray, List.set_cons_zero, List.set_cons_succ]
      refine wpAnyH_take (i := 5) (oi := ⟨some 17, _, _, _, _, _⟩) (v := ?_) rfl (by kernel_rfl) (by kernel_rfl) (by kernel_rfl) (fun _ _ _ h => h) (Or.inl ⟨by rfl, ?_⟩) (by assumption) ?_
      rotate_left 1
      · (intro w hSw; (try dsimp only at hSw); go_simp; (try simp only [hand, dif_pos hc1, dif_pos hc2, hv1, hv2]); try (with_reducible rfl))
      try simp only [Act.put, List.setIfInBounds_toArray, List.set_cons_zero, List.set_cons_succ]
      refine wpAnyH_take (i := 6) (oi := ⟨some 18, _, _, _, _, _⟩) (v := ?_) rfl (by kernel_rfl) (by kernel_rfl) (by kernel_rfl) (fun _ _ _ h => h) (Or.inl ⟨by rfl, ?_⟩) (by assumption) ?_
      rotate_left 1
      · (intro w hSw; (try dsimp only at hSw); go_simp; (try simp only [hand, dif_pos hc1, dif_pos hc2, hv1, hv2]); try (with_reducible rfl))
      try simp only [Act.put, List.setIfInBounds_toArray, List.set_cons_zero, List.set_cons_succ]
      refine wpAnyH_take (i := 7) (oi := ⟨some 19, _, _, _, _, _⟩) (v := ?_) rfl (by kernel_rfl) (by kernel_rfl) (by kernel_rfl) (fun _ _ _ h => h) (Or.inl ⟨by rfl, ?_⟩) (by assumption) ?_
      rotate_left 1
      · (intro w hSw; (try dsimp only at hSw); go_simp; (try simp only [hand, dif_pos hc1, dif_pos hc2, hv1, hv2]); try (with_reducible rfl))
      try simp only [Act.put, List.setIfInBounds_toArray, List.set_cons_zero, List.set_cons_succ]
      refine wpAnyH_take (i := 8) (oi := ⟨some 20, _, _, _, _, _⟩) (v := ?_) rfl (by kernel_rfl) (by kernel_rfl) (by kernel_rfl) (fun _ _ _ h => h) (Or.inl ⟨by rfl, ?_⟩) (by assumption) ?_
      rotate_left 1
      · (intro w hSw; (try dsimp only at hSw); go_simp; (try simp only [hand, dif_pos hc1, dif_pos hc2, hv1, hv2]); try (with_reducible rfl))
      try simp only [Act.put, List.setIfInBounds_toArray, List.set_cons_zero, List.set_cons_succ]
      refine wpAnyH_take (i := 9) (oi := ⟨some 21, _, _, _, _, _⟩) (v := ?_) rfl (by kernel_rfl) (by kernel_rfl) (by kernel_rfl) (fun _ _ _ h => h) (Or.inl ⟨by rfl, ?_⟩) (by assumption) ?_
      rotate_left 1
      · (intro w hSw; (try dsimp only at hSw); go_simp; (try simp only [hand, dif_pos hc1, dif_pos hc2, hv1, hv2]); try (with_reducible rfl))
      try simp only [Act.put, List.setIfInBounds_toArray, List.set_cons_zero, List.set_cons_succ]
      refine wpAnyH_take (i := 10) (oi := ⟨some 22, _, _, _, _, _⟩) (v := ?_) rfl (by kernel_rfl) (by kernel_rfl) (by kernel_rfl) (fun _ _ _ h => h) (Or.inl ⟨by rfl, ?_⟩) (by assumption) ?_
      rotate_left 1
      · (intro w hSw; (try dsimp only at hSw); go_simp; (try simp only [hand, dif_pos hc1, dif_pos hc2, hv1, hv2]); try (with_reducible rfl))
      try simp only [Act.put, List.setIfInBounds_toArray, List.set_cons_zero, List.set_cons_succ]
      refine wpAnyH_ready (rs := [11]) (by kernel_rfl) (by simp) ?_
      refine AllReadyH.cons (o := ⟨some 23, _, _, _, _, _⟩) rfl (fun K hK => ?_) AllReadyH.nil
      go_simp
      go_wp2_with fail
      refine hK.out _ _ (by first | (with_reducible exact keep_step (by assumption) (below1 _ _) (by first | omega | (simp only [World.size_drew]; omega) | (simp only [size_alloc]; omega) | (simp only [World.size_drew, size_alloc]; omega) | (have := (‹(_ ∧ Below (w.heap.size) wr _)›).2.size; first | omega | (simp only [World.size_drew]; omega) | (simp only [size_alloc]; omega) | (simp only [World.size_drew, size_alloc]; omega) | (simp only [World.size_drew] at this; omega) | (simp only [size_alloc] at this; omega) | (simp only [World.size_drew, size_alloc] at this; omega)))) | (exact keep_step (by assumption) (below1 _ _) (by first | omega | (simp only [World.size_drew]; omega) | (simp only [size_alloc]; omega) | (simp only [World.size_drew, size_alloc]; omega) | (have := (‹(_ ∧ Below (w.heap.size) wr _)›).2.size; first | omega | (simp only [World.size_drew]; omega) | (simp only [size_alloc]; omega) | (simp only [World.size_drew, size_alloc]; omega) | (simp only [World.size_drew] at this; omega) | (simp only [size_alloc] at this; omega) | (simp only [World.size_drew, size_alloc] at this; omega))))) (fun hHeld => ?_)
      clear hK K
      try simp only [Act.put, List.setIfInBounds_toArray, List.set_cons_zero, List.set_cons_succ]
      refine wpAnyH_ready (rs := [12]) (by kernel_rfl) (by simp) ?_
      refine AllReadyH.cons (o := ⟨some 24, _, _, _, _, _⟩) rfl (fun K hK => ?_) AllReadyH.nil
      focus (((refine step_appL EByte.elem rfl _ _ 33 rfl (.int .u8 0) 1 Tryz.underlying33 info_Byte2 rfl w.heap.size ar cr (hexL (s.data.toList.take j)) [] (by first | rfl | (rw [hlen]; rfl)) (HA.out.agree EByte.elem (fun f hf => (below1 wr.drew _).block f hf) (by omega)) (by simp; omega) wr.heap.size 0 2 2 [hexD (((s[j]'hlt).toNat : Int) / 16), hexD (((s[j]'hlt).toNat : Int) % 16)] [] rfl rfl ⟨[], [], rfl, ⟨rfl, (Is.new wr.drew #[.int .u8 (hexD (((s[j]'hlt).toNat : Int) / 16)), .int .u8 (hexD (((s[j]'hlt).toNat : Int) % 16))] 5).cell 0 rfl, HU1.out⟩, ⟨[], [], rfl, ⟨rfl, (Is.new wr.drew #[.int .u8 (hexD (((s[j]'hlt).toNat : Int) / 16)), .int .u8 (hexD (((s[j]'hlt).toNat : Int) % 16))] 5).cell 1 rfl, HU2.out⟩, rfl⟩⟩ (by simp) (by omega) (by rw [hlen]; unfold maxLen; omega) (by rw [hlen]; omega) ?_; intro ar2 cr2 w4 happ4 hb4)); refine hK.out _ _ (by first | (with_reducible exact keep_step (by assumption) (by assumption) (by first | omega | (simp only [World.size_drew]; omega) | (simp only [size_alloc]; omega) | (simp only [World.size_drew, size_alloc]; omega) | (have := (‹(_ ∧ Below (w.heap.size) wr _)›).2.size; first | omega | (simp only [World.size_drew]; omega) | (simp only [size_alloc]; omega) | (simp only [World.size_drew, size_alloc]; omega) | (simp only [World.size_drew] at this; omega) | (simp only [size_alloc] at this; omega) | (simp only [World.size_drew, size_alloc] at this; omega)))) | first | exact ⟨fun _ _ _ => rfl, (Below.refl _ _).drew⟩ | exact keep_step (by assumption) (Below.drew (Below.refl _ _)) (Nat.le_refl _) | exact keep_step (by assumption) (by assumption) (by first | omega | (simp only [World.size_drew]; omega) | (simp only [size_alloc]; omega) | (simp only [World.size_drew, size_alloc]; omega) | (have := (‹(_ ∧ Below (w.heap.size) wr _)›).2.size; first | omega | (simp only [World.size_drew]; omega) | (simp only [size_alloc]; omega) | (simp only [World.size_drew, size_alloc]; omega) | (simp only [World.size_drew] at this; omega) | (simp only [size_alloc] at this; omega) | (simp only [World.size_drew, size_alloc] at this; omega)))) (fun hHeld => ?_); clear hK K; try simp only [Act.put, List.setIfInBounds_toArray, List.set_cons_zero, List.set_cons_succ])
      refine wpAnyH_take (i := 13) (oi := ⟨some 3, _, _, _, _, _⟩) (v := ?_) rfl (by kernel_rfl) (by kernel_rfl) (by kernel_rfl) (fun _ _ _ h => h) (Or.inl ⟨by rfl, ?_⟩) (by assumption) ?_
      rotate_left 1
      · (intro w hSw; (try dsimp only at hSw); go_simp; (try simp only [hand, dif_pos hc1, dif_pos hc2, hv1, hv2]); try (with_reducible rfl))
      try simp only [Act.put, List.setIfInBounds_toArray, List.set_cons_zero, List.set_cons_succ]
      refine wpAnyH_done (by kernel_rfl) ?_ _
      have HB4 := Lib.hid (show Below w.heap.size wr _ from (‹_ ∧ Below (w.heap.size) wr _›).2)
      go_wp2_with fail
      go_roundw
      case rel => exact ⟨j + 1, ar2, cr2, by omega, by go_num, by rw [HS.out, List.length_append, hlen]; rfl, by rw [HS.out]; exact happ4, hb.trans HB4.out⟩
      case measure => simp [intOf]; omega
    · have hjj : s.size = j := by omega
      have HJ := Lib.hid (show s.data.toList.take j = s.data.toList from by rw [← hjj, Lib.size_eq, List.take_length]); clear hjj
      have hcv := conv_bytes wr w.heap.size ar cr _ [] HA.out
      rw [HJ.out] at hcv ⊢
      have HH := Lib.hid (show hexT s = strOfNums (hexL s.data.toList) from rfl)
      generalize hexL s.data.toList = L at *
      generalize strOfNums L = O at *
      go_wp2_with fail
      go_ret
      exact ⟨ret_s HH.out.symm, hb⟩
set_option maxHeartbeats 4000000 in
theorem impl_HexText (s : ByteArray) (w : World) (hs : s.size ≤ 1048576) :
    Calls Tryz.prog 146 #[.string s] w fun e w' => e = .returned (.string (hexT s)) ∧ Below w.heap.size w w' := by
  have h0 := AppL.made (E := EByte) (e := 5) w w.heap.size (2 * s.size) (.int .u8 0) (Nat.le_refl _) (by unfold maxLen; omega)
  have hmk := fun w => make_cap (P := Tryz.prog) Tryz.underlying33 info_Byte2 rfl (2 * s.size) (2 * (s.size : Int)) (by omega) (by omega) (by omega) w
  go_enter Tryz.func146, Tryz.ntmps146
  go_wp2_with fail
  clear hmk
  rw [Nat.mul_one] at h0
  go_loopw [3, 11, 4] (fun q i _ wr => ∃ (j : Nat) (ar : Option Addr) (cr : Nat), j ≤ s.size ∧ i = .int .i64 j ∧ q = .slice ar (hexL (s.data.toList.take j)).length cr ∧ AppL EByte 1 5 wr w.heap.size ar cr (hexL (s.data.toList.take j)) [] ∧ Below w.heap.size w wr) (fun _ i _ _ => s.size - (intOf i).toNat)
  case atStart => exact ⟨0, _, _, Nat.zero_le _, rfl, rfl, h0, below1 _ _⟩
  case round =>
    obtain ⟨j, ar, cr, hj, rfl, rfl, happ, hb⟩ := hrel
    have hbs := hb.size
    have HA := Lib.hid happ; clear happ
    by_cases hlt : j < s.size
    · have HLEN := Lib.hid (Lib.size_eq s)
      have hlen : (hexL (s.data.toList.take j)).length = 2 * j := by rw [hexL_len, List.length_take]; have := HLEN.out; omega
      have hx := (s[j]'hlt).toNat_lt
      have hand := and15 ⟨(s[j]'hlt).toNat, hx⟩
      simp only at hand
      have hc1 : 0 ≤ ((s[j]'hlt).toNat : Int) / 16 ∧ ((s[j]'hlt).toNat : Int) / 16 < 16 := by omega
      have hc2 : 0 ≤ ((s[j]'hlt).toNat : Int) % 16 ∧ ((s[j]'hlt).toNat : Int) % 16 < 16 := by omega
      have hv1 := hex_dig _ hc1.1 hc1.2
      have hv2 := hex_dig _ hc2.1 hc2.2
      have HS := Lib.hid (hexL_succ s j hlt)
      have HU1 := Lib.hid (hexD_u8 _ hc1.1 hc1.2)
      have HU2 := Lib.hid (hexD_u8 _ hc2.1 hc2.2)
      go_wp2_with fail
      refine wp_region_held_drew (S := fun w' => (∀ b o, b < w.heap.size → w'.cell? ⟨b, o, none⟩ = wr.cell? ⟨b, o, none⟩) ∧ Below (w.heap.size) wr w') (by kernel_rfl) (by first | exact ⟨fun _ _ _ => rfl, (Below.refl _ _).drew⟩ | exact keep_step (by assumption) (Below.drew (Below.refl _ _)) (Nat.le_refl _) | exact keep_step (by assumption) (by assumption) (by first | omega | (simp only [World.size_drew]; omega) | (simp only [size_alloc]; omega) | (simp only [World.size_drew, size_alloc]; omega) | (have := (‹(_ ∧ Below (w.heap.size) wr _)›).2.size; first | omega | (simp only [World.size_drew]; omega) | (simp only [size_alloc]; omega) | (simp only [World.size_drew, size_alloc]; omega) | (simp only [World.size_drew] at this; omega) | (simp only [size_alloc] at this; omega) | (simp only [World.size_drew, size_alloc] at this; omega)))) (fun hHeld => ?_)
      refine wpAnyH_take (i := 0) (oi := ⟨some 14, _, _, _, _, _⟩) (v := ?_) rfl (by kernel_rfl) (by kernel_rfl) (by kernel_rfl) (fun _ _ _ h => h) (Or.inl ⟨by rfl, ?_⟩) (by assumption) ?_
      rotate_left 1
      · (intro w hSw; (try dsimp only at hSw); go_simp; (try simp only [hand, dif_pos hc1, dif_pos hc2, hv1, hv2]); try (with_reducible rfl))
      try simp only [Act.put, List.setIfInBounds_toArray, List.set_cons_zero, List.set_cons_succ]
      refine wpAnyH_take (i := 1) (oi := ⟨some 15, _, _, _, _, _⟩) (v := ?_) rfl (by kernel_rfl) (by kernel_rfl) (by kernel_rfl) (fun _ _ _ h => h) (Or.inl ⟨by rfl, ?_⟩) (by assumption) ?_
      rotate_left 1
      · (intro w hSw; (try dsimp only at hSw); go_simp; (try simp only [hand, dif_pos hc1, dif_pos hc2, hv1, hv2]); try (with_reducible rfl))
      try simp only [Act.put, List.setIfInBounds_toArray, List.set_cons_zero, List.set_cons_succ]
      refine wpAnyH_take (i := 2) (oi := ⟨some 16, _, _, _, _, _⟩) (v := ?_) rfl (by kernel_rfl) (by kernel_rfl) (by kernel_rfl) (fun _ _ _ h => h) (Or.inl ⟨by rfl, ?_⟩) (by assumption) ?_
      rotate_left 1
      · (intro w hSw; (try dsimp only at hSw); go_simp; (try simp only [hand, dif_pos hc1, dif_pos hc2, hv1, hv2]); try (with_reducible rfl))
      try simp only [Act.put, List.setIfInBounds_toArray, List.set_cons_zero, List.set_cons_succ]
      refine wpAnyH_take (i := 3) (oi := ⟨some 17, _, _, _, _, _⟩) (v := ?_) rfl (by kernel_rfl) (by kernel_rfl) (by kernel_rfl) (fun _ _ _ h => h) (Or.inl ⟨by rfl, ?_⟩) (by assumption) ?_
      rotate_left 1
      · (intro w hSw; (try dsimp only at hSw); go_simp; (try simp only [hand, dif_pos hc1, dif_pos hc2, hv1, hv2]); try (with_reducible rfl))
      try simp only [Act.put, List.setIfInBounds_toArray, List.set_cons_zero, List.set_cons_succ]
      refine wpAnyH_take (i := 4) (oi := ⟨some 18, _, _, _, _, _⟩) (v := ?_) rfl (by kernel_rfl) (by kernel_rfl) (by kernel_rfl) (fun _ _ _ h => h) (Or.inl ⟨by rfl, ?_⟩) (by assumption) ?_
      rotate_left 1
      · (intro w hSw; (try dsimp only at hSw); go_simp; (try simp only [hand, dif_pos hc1, dif_pos hc2, hv1, hv2]); try (with_reducible rfl))
      try simp only [Act.put, List.setIfInBounds_toArray, List.set_cons_zero, List.set_cons_succ]
      refine wpAnyH_take (i := 5) (oi := ⟨some 19, _, _, _, _, _⟩) (v := ?_) rfl (by kernel_rfl) (by kernel_rfl) (by kernel_rfl) (fun _ _ _ h => h) (Or.inl ⟨by rfl, ?_⟩) (by assumption) ?_
      rotate_left 1
      · (intro w hSw; (try dsimp only at hSw); go_simp; (try simp only [hand, dif_pos hc1, dif_pos hc2, hv1, hv2]); try (with_reducible rfl))
      try simp only [Act.put, List.setIfInBounds_toArray, List.set_cons_zero, List.set_cons_succ]
      refine wpAnyH_take (i := 6) (oi := ⟨some 20, _, _, _, _, _⟩) (v := ?_) rfl (by kernel_rfl) (by kernel_rfl) (by kernel_rfl) (fun _ _ _ h => h) (Or.inl ⟨by rfl, ?_⟩) (by assumption) ?_
      rotate_left 1
      · (intro w hSw; (try dsimp only at hSw); go_simp; (try simp only [hand, dif_pos hc1, dif_pos hc2, hv1, hv2]); try (with_reducible rfl))
      try simp only [Act.put, List.setIfInBounds_toArray, List.set_cons_zero, List.set_cons_succ]
      refine wpAnyH_take (i := 7) (oi := ⟨some 21, _, _, _, _, _⟩) (v := ?_) rfl (by kernel_rfl) (by kernel_rfl) (by kernel_rfl) (fun _ _ _ h => h) (Or.inl ⟨by rfl, ?_⟩) (by assumption) ?_
      rotate_left 1
      · (intro w hSw; (try dsimp only at hSw); go_simp; (try simp only [hand, dif_pos hc1, dif_pos hc2, hv1, hv2]); try (with_reducible rfl))
      try simp only [Act.put, List.setIfInBounds_toArray, List.set_cons_zero, List.set_cons_succ]
      refine wpAnyH_take (i := 8) (oi := ⟨some 22, _, _, _, _, _⟩) (v := ?_) rfl (by kernel_rfl) (by kernel_rfl) (by kernel_rfl) (fun _ _ _ h => h) (Or.inl ⟨by rfl, ?_⟩) (by assumption) ?_
      rotate_left 1
      · (intro w hSw; (try dsimp only at hSw); go_simp; (try simp only [hand, dif_pos hc1, dif_pos hc2, hv1, hv2]); try (with_reducible rfl))
      try simp only [Act.put, List.setIfInBounds_toArray, List.set_cons_zero, List.set_cons_succ]
      refine wpAnyH_take (i := 9) (oi := ⟨some 23, _, _, _, _, _⟩) (v := ?_) rfl (by kernel_rfl) (by kernel_rfl) (by kernel_rfl) (fun _ _ _ h => h) (Or.inl ⟨by rfl, ?_⟩) (by assumption) ?_
      rotate_left 1
      · (intro w hSw; (try dsimp only at hSw); go_simp; (try simp only [hand, dif_pos hc1, dif_pos hc2, hv1, hv2]); try (with_reducible rfl))
      try simp only [Act.put, List.setIfInBounds_toArray, List.set_cons_zero, List.set_cons_succ]
      refine wpAnyH_take (i := 10) (oi := ⟨some 24, _, _, _, _, _⟩) (v := ?_) rfl (by kernel_rfl) (by kernel_rfl) (by kernel_rfl) (fun _ _ _ h => h) (Or.inl ⟨by rfl, ?_⟩) (by assumption) ?_
      rotate_left 1
      · (intro w hSw; (try dsimp only at hSw); go_simp; (try simp only [hand, dif_pos hc1, dif_pos hc2, hv1, hv2]); try (with_reducible rfl))
      try simp only [Act.put, List.setIfInBounds_toArray, List.set_cons_zero, List.set_cons_succ]
      refine wpAnyH_ready (rs := [11]) (by kernel_rfl) (by simp) ?_
      refine AllReadyH.cons (o := ⟨some 25, _, _, _, _, _⟩) rfl (fun K hK => ?_) AllReadyH.nil
      go_simp
      go_wp2_with fail
      refine hK.out _ _ (by first | (with_reducible exact keep_step (by assumption) (below1 _ _) (by first | omega | (simp only [World.size_drew]; omega) | (simp only [size_alloc]; omega) | (simp only [World.size_drew, size_alloc]; omega) | (have := (‹(_ ∧ Below (w.heap.size) wr _)›).2.size; first | omega | (simp only [World.size_drew]; omega) | (simp only [size_alloc]; omega) | (simp only [World.size_drew, size_alloc]; omega) | (simp only [World.size_drew] at this; omega) | (simp only [size_alloc] at this; omega) | (simp only [World.size_drew, size_alloc] at this; omega)))) | (exact keep_step (by assumption) (below1 _ _) (by first | omega | (simp only [World.size_drew]; omega) | (simp only [size_alloc]; omega) | (simp only [World.size_drew, size_alloc]; omega) | (have := (‹(_ ∧ Below (w.heap.size) wr _)›).2.size; first | omega | (simp only [World.size_drew]; omega) | (simp only [size_alloc]; omega) | (simp only [World.size_drew, size_alloc]; omega) | (simp only [World.size_drew] at this; omega) | (simp only [size_alloc] at this; omega) | (simp only [World.size_drew, size_alloc] at this; omega))))) (fun hHeld => ?_)
      clear hK K
      try simp only [Act.put, List.setIfInBounds_toArray, List.set_cons_zero, List.set_cons_succ]
      refine wpAnyH_ready (rs := [12]) (by kernel_rfl) (by simp) ?_
      refine AllReadyH.cons (o := ⟨some 26, _, _, _, _, _⟩) rfl (fun K hK => ?_) AllReadyH.nil
      focus (((refine step_appL EByte.elem rfl _ _ 33 rfl (.int .u8 0) 1 Tryz.underlying33 info_Byte2 rfl w.heap.size ar cr (hexL (s.data.toList.take j)) [] (by first | rfl | (rw [hlen]; rfl)) (HA.out.agree EByte.elem (fun f hf => (below1 wr.drew _).block f hf) (by omega)) (by simp; omega) wr.heap.size 0 2 2 [hexD (((s[j]'hlt).toNat : Int) / 16), hexD (((s[j]'hlt).toNat : Int) % 16)] [] rfl rfl ⟨[], [], rfl, ⟨rfl, (Is.new wr.drew #[.int .u8 (hexD (((s[j]'hlt).toNat : Int) / 16)), .int .u8 (hexD (((s[j]'hlt).toNat : Int) % 16))] 5).cell 0 rfl, HU1.out⟩, ⟨[], [], rfl, ⟨rfl, (Is.new wr.drew #[.int .u8 (hexD (((s[j]'hlt).toNat : Int) / 16)), .int .u8 (hexD (((s[j]'hlt).toNat : Int) % 16))] 5).cell 1 rfl, HU2.out⟩, rfl⟩⟩ (by simp) (by omega) (by rw [hlen]; unfold maxLen; omega) (by rw [hlen]; omega) ?_; intro ar2 cr2 w4 happ4 hb4)); refine hK.out _ _ (by first | (with_reducible exact keep_step (by assumption) (by assumption) (by first | omega | (simp only [World.size_drew]; omega) | (simp only [size_alloc]; omega) | (simp only [World.size_drew, size_alloc]; omega) | (have := (‹(_ ∧ Below (w.heap.size) wr _)›).2.size; first | omega | (simp only [World.size_drew]; omega) | (simp only [size_alloc]; omega) | (simp only [World.size_drew, size_alloc]; omega) | (simp only [World.size_drew] at this; omega) | (simp only [size_alloc] at this; omega) | (simp only [World.size_drew, size_alloc] at this; omega)))) | first | exact ⟨fun _ _ _ => rfl, (Below.refl _ _).drew⟩ | exact keep_step (by assumption) (Below.drew (Below.refl _ _)) (Nat.le_refl _) | exact keep_step (by assumption) (by assumption) (by first | omega | (simp only [World.size_drew]; omega) | (simp only [size_alloc]; omega) | (simp only [World.size_drew, size_alloc]; omega) | (have := (‹(_ ∧ Below (w.heap.size) wr _)›).2.size; first | omega | (simp only [World.size_drew]; omega) | (simp only [size_alloc]; omega) | (simp only [World.size_drew, size_alloc]; omega) | (simp only [World.size_drew] at this; omega) | (simp only [size_alloc] at this; omega) | (simp only [World.size_drew, size_alloc] at this; omega)))) (fun hHeld => ?_); clear hK K; try simp only [Act.put, List.setIfInBounds_toArray, List.set_cons_zero, List.set_cons_succ])
      refine wpAnyH_take (i := 13) (oi := ⟨some 3, _, _, _, _, _⟩) (v := ?_) rfl (by kernel_rfl) (by kernel_rfl) (by kernel_rfl) (fun _ _ _ h => h) (Or.inl ⟨by rfl, ?_⟩) (by assumption) ?_
      rotate_left 1
      · (intro w hSw; (try dsimp only at hSw); go_simp; (try simp only [hand, dif_pos hc1, dif_pos hc2, hv1, hv2]); try (with_reducible rfl))
      try simp only [Act.put, List.setIfInBounds_toArray, List.set_cons_zero, List.set_cons_succ]
      refine wpAnyH_done (by kernel_rfl) ?_ _
      have HB4 := Lib.hid (show Below w.heap.size wr _ from (‹_ ∧ Below (w.heap.size) wr _›).2)
      go_wp2_with fail
      go_roundw
      case rel => exact ⟨j + 1, ar2, cr2, by omega, by go_num, by rw [HS.out, List.length_append, hlen]; rfl, by rw [HS.out]; exact happ4, hb.trans HB4.out⟩
      case measure => simp [intOf]; omega
    · have hjj : s.size = j := by omega
      have HJ := Lib.hid (show s.data.toList.take j = s.data.toList from by rw [← hjj, Lib.size_eq, List.take_length]); clear hjj
      have hcv := conv_bytes wr w.heap.size ar cr _ [] HA.out
      rw [HJ.out] at hcv ⊢
      have HH := Lib.hid (show hexT s = strOfNums (hexL s.data.toList) from rfl)
      generalize hexL s.data.toList = L at *
      generalize strOfNums L = O at *
      go_wp2_with fail
      go_ret
      exact ⟨ret_s HH.out.symm, hb⟩
end Go.Proofs.YthpmfkkmhbbloaaGreatDoor
namespace Go.Proofs.YthpmfkkmhbbloaaGreatDoor
open Go.ChangeShapes Go.WideShapes Go.ChangeAt Go.RowKit Go.Joins
set_option linter.unusedVariables false
set_option maxRecDepth 100000
theorem spec_l1InE (n lo hi : Int) (w : World) : Calls Tryz.prog 63 #[.int .i64 n, .int .i64 lo, .int .i64 hi] w fun e w' => e = .returned (.bool (decide (lo ≤ n ∧ n ≤ hi))) ∧ w' = w := by
  by_cases h1 : lo ≤ n
  · by_cases h2 : n ≤ hi
    · have hd : decide (lo ≤ n ∧ n ≤ hi) = true := decide_eq_true ⟨h1, h2⟩
      rw [hd]; clear hd
      go_enter Tryz.func63, Tryz.ntmps63
      go_wp2
      go_ret
      exact ⟨rfl, rfl⟩
    · have hd : decide (lo ≤ n ∧ n ≤ hi) = false := decide_eq_false (fun h => h2 h.2)
      rw [hd]; clear hd
      go_enter Tryz.func63, Tryz.ntmps63
      go_wp2
      go_ret
      exact ⟨rfl, rfl⟩
  · have hd : decide (lo ≤ n ∧ n ≤ hi) = false := decide_eq_false (fun h => h1 h.1)
    rw [hd]; clear hd
    go_enter Tryz.func63, Tryz.ntmps63
    go_wp2
    go_ret
    exact ⟨rfl, rfl⟩
theorem impl_withinE (n lo hi : Int) (w : World) : Calls Tryz.prog 79 #[.int .i64 n, .int .i64 lo, .int .i64 hi] w fun e w' => e = .returned (.bool (decide (lo ≤ n ∧ n ≤ hi))) ∧ w' = w := by
  by_cases h1 : lo ≤ n
  · by_cases h2 : n ≤ hi
    · have hd : decide (lo ≤ n ∧ n ≤ hi) = true := decide_eq_true ⟨h1, h2⟩
      rw [hd]; clear hd
      go_enter Tryz.func79, Tryz.ntmps79
      go_wp2
      go_ret
      exact ⟨rfl, rfl⟩
    · have hd : decide (lo ≤ n ∧ n ≤ hi) = false := decide_eq_false (fun h => h2 h.2)
      rw [hd]; clear hd
      go_enter Tryz.func79, Tryz.ntmps79
      go_wp2
      go_ret
      exact ⟨rfl, rfl⟩
  · have hd : decide (lo ≤ n ∧ n ≤ hi) = false := decide_eq_false (fun h => h1 h.1)
    rw [hd]; clear hd
    go_enter Tryz.func79, Tryz.ntmps79
    go_wp2
    go_ret
    exact ⟨rfl, rfl⟩
def okW (w : Int) : Bool := w == 1 || w == 2 || w == 4 || w == 8
theorem okW_iff (w : Int) : okW w = true ↔ (w = 1 ∨ w = 2 ∨ w = 4 ∨ w = 8) := by unfold okW; simp [or_assoc]
theorem spec_l3WidthE (n : Int) (w : World) : Calls Tryz.prog 140 #[.int .i64 n] w fun e w' => e = .returned (.bool (okW n)) ∧ w' = w := by
  go_enter Tryz.func140, Tryz.ntmps140
  go_wp2
  all_goals
    go_ret
    exact ⟨ret_b (by first | rfl | (simp [okW]; done) | (simp [okW]; omega)), rfl⟩
theorem spec_l3Width (n : Int) (w : World) : Calls Tryz.prog 140 #[.int .i64 n] w fun e w' => e = .returned (.bool (okW n)) ∧ Below w.heap.size w w' := (spec_l3WidthE n w).mono (fun _ _ h => ⟨h.1, h.2 ▸ Below.refl _ _⟩)
theorem impl_isWidthE (n : Int) (w : World) : Calls Tryz.prog 162 #[.int .i64 n] w fun e w' => e = .returned (.bool (okW n)) ∧ w' = w := by
  go_enter Tryz.func162, Tryz.ntmps162
  go_wp2
  all_goals
    go_ret
    exact ⟨ret_b (by first | rfl | (simp [okW]; done) | (simp [okW]; omega)), rfl⟩
theorem impl_isWidth (n : Int) (w : World) : Calls Tryz.prog 162 #[.int .i64 n] w fun e w' => e = .returned (.bool (okW n)) ∧ Below w.heap.size w w' := (impl_isWidthE n w).mono (fun _ _ h => ⟨h.1, h.2 ▸ Below.refl _ _⟩)
theorem spec_WidthForE (n : Int) (w : World) : Calls Tryz.prog 116 #[.int .i64 n] w fun e w' => e = .returned (.int .i64 (widthD n)) ∧ w' = w := by
  have HD := Lib.hid (show widthD n = if n < 0 then 0 else if n < 256 then 1 else if n < 65536 then 2 else if n < 4294967296 then 4 else 8 from rfl)
  by_cases h1 : n < 0
  · go_enter Tryz.func116, Tryz.ntmps116
    go_wp2
    go_ret
    exact ⟨ret_i (by rw [HD.out, if_pos (by omega)]), rfl⟩
  by_cases h2 : n < 256
  · go_enter Tryz.func116, Tryz.ntmps116
    go_wp2
    go_ret
    exact ⟨ret_i (by rw [HD.out, if_neg (by omega), if_pos (by omega)]), rfl⟩
  by_cases h3 : n < 65536
  · go_enter Tryz.func116, Tryz.ntmps116
    go_wp2
    go_ret
    exact ⟨ret_i (by rw [HD.out, if_neg (by omega), if_neg (by omega), if_pos (by omega)]), rfl⟩
  by_cases h4 : n < 4294967296
  · go_enter Tryz.func116, Tryz.ntmps116
    go_wp2
    go_ret
    exact ⟨ret_i (by rw [HD.out, if_neg (by omega), if_neg (by omega), if_neg (by omega), if_pos (by omega)]), rfl⟩
  go_enter Tryz.func116, Tryz.ntmps116
  go_wp2
  go_ret
  exact ⟨ret_i (by rw [HD.out, if_neg (by omega), if_neg (by omega), if_neg (by omega), if_neg (by omega)]), rfl⟩
theorem spec_WidthFor (n : Int) (w : World) : Calls Tryz.prog 116 #[.int .i64 n] w fun e w' => e = .returned (.int .i64 (widthD n)) ∧ Below w.heap.size w w' := (spec_WidthForE n w).mono (fun _ _ h => ⟨h.1, h.2 ▸ Below.refl _ _⟩)
theorem impl_fitsIntoE (n k : Int) (w : World) (hk : k = 1 ∨ k = 2 ∨ k = 4 ∨ k = 8) (hn : I64 n) : Calls Tryz.prog 163 #[.int .i64 n, .int .i64 k] w fun e w' => e = .returned (.bool (decide (fitW n k))) ∧ w' = w := by
  obtain ⟨hn0, hn1⟩ := hn
  by_cases h0 : n < 0
  · have hd : decide (fitW n k) = false := decide_eq_false (by unfold fitW; omega)
    rw [hd]; clear hd
    go_enter Tryz.func163, Tryz.ntmps163
    go_wp2
    go_ret
    exact ⟨rfl, rfl⟩
  obtain rfl | rfl | rfl | rfl := hk
  · have hd : (n / 256 == 0) = decide (fitW n 1) := by rw [Bool.eq_iff_iff]; simp only [beq_iff_eq, decide_eq_true_iff]; unfold fitW; omega
    rw [← hd]; clear hd
    go_enter Tryz.func163, Tryz.ntmps163
    go_wp2
    go_ret
    exact ⟨rfl, rfl⟩
  · have hd : (n / 65536 == 0) = decide (fitW n 2) := by rw [Bool.eq_iff_iff]; simp only [beq_iff_eq, decide_eq_true_iff]; unfold fitW; omega
    rw [← hd]; clear hd
    go_enter Tryz.func163, Tryz.ntmps163
    go_wp2
    go_ret
    exact ⟨rfl, rfl⟩
  · have hd : (n / 4294967296 == 0) = decide (fitW n 4) := by rw [Bool.eq_iff_iff]; simp only [beq_iff_eq, decide_eq_true_iff]; unfold fitW; omega
    rw [← hd]; clear hd
    go_enter Tryz.func163, Tryz.ntmps163
    go_wp2
    go_ret
    exact ⟨rfl, rfl⟩
  · have hd : decide (fitW n 8) = true := decide_eq_true (by unfold fitW; omega)
    rw [hd]; clear hd
    go_enter Tryz.func163, Tryz.ntmps163
    go_wp2
    go_ret
    exact ⟨rfl, rfl⟩
theorem impl_fitsInto (n k : Int) (w : World) (hk : k = 1 ∨ k = 2 ∨ k = 4 ∨ k = 8) (hn : I64 n) : Calls Tryz.prog 163 #[.int .i64 n, .int .i64 k] w fun e w' => e = .returned (.bool (decide (fitW n k))) ∧ Below w.heap.size w w' := (impl_fitsIntoE n k w hk hn).mono (fun _ _ h => ⟨h.1, h.2 ▸ Below.refl _ _⟩)
theorem impl_WidthForE (n : Int) (w : World) (hn : I64 n) : Calls Tryz.prog 161 #[.int .i64 n] w fun e w' => e = .returned (.int .i64 (widthD n)) ∧ w' = w := by
  have HN := Lib.hid hn
  clear hn
  by_cases h0 : n < 0
  · have HD := Lib.hid (show widthD n = 0 from if_pos h0)
    rw [HD.out]
    go_enter Tryz.func161, Tryz.ntmps161
    go_wp2
    go_ret
    exact ⟨rfl, rfl⟩
  · go_enter Tryz.func161, Tryz.ntmps161
    go_wp2_with fail
    go_loopw [3] (fun v wr => ∃ k : Int, v = .int .i64 k ∧ (k = 1 ∨ k = 2 ∨ k = 4 ∨ k = 8) ∧ Hid (k ≤ widthD n) ∧ wr = w) (fun v _ => 8 - (intOf v).toNat)
    case atStart => exact ⟨1, rfl, by omega, Lib.hid (by have := widthD_in n (by omega); omega), rfl⟩
    case round =>
      obtain ⟨k, rfl, hk, HK, rfl⟩ := hrel
      have HI := Lib.hid (widthD_in n (by omega))
      have HF := Lib.hid (widthD_fit n k (by omega) hk)
      by_cases hf : fitW n k
      · have hd : decide (fitW n k) = true := decide_eq_true hf
        have HE : Hid (widthD n = k) := Lib.hid (by have := HF.out.1 hf; have := HK.out; omega)
        go_wp2_with fail
        refine (impl_fitsIntoE n k _ hk HN.out).mono ?_
        rintro e w2 ⟨rfl, rfl⟩
        rw [hd]
        clear hd
        go_wp2_with fail
        go_ret
        exact ⟨ret_i HE.out.symm, rfl⟩
      · have hd : decide (fitW n k) = false := decide_eq_false hf
        have hk2 : k = 1 ∨ k = 2 ∨ k = 4 := by rcases hk with h | h | h | h; (· omega); (· omega); (· omega); exact absurd (HF.out.2 (by have := HI.out; omega)) hf
        have HE : Hid (2 * k ≤ widthD n) := Lib.hid (by have h1 : ¬ widthD n ≤ k := fun h => hf (HF.out.2 h); have := HI.out; omega)
        go_wp2_with fail
        refine (impl_fitsIntoE n k _ hk HN.out).mono ?_
        rintro e w2 ⟨rfl, rfl⟩
        rw [hd]
        clear hd hf
        obtain rfl | rfl | rfl := hk2
        all_goals
          go_wp2_with fail
          go_roundw
          case rel => exact ⟨_, rfl, by omega, Lib.hid (by have := HE.out; omega), by first | rfl | trivial⟩
          case measure => simp [intOf]
theorem impl_WidthFor (n : Int) (w : World) (hn : I64 n) : Calls Tryz.prog 161 #[.int .i64 n] w fun e w' => e = .returned (.int .i64 (widthD n)) ∧ Below w.heap.size w w' := (impl_WidthForE n w hn).mono (fun _ _ h => ⟨h.1, h.2 ▸ Below.refl _ _⟩)
end Go.Proofs.YthpmfkkmhbbloaaGreatDoor
