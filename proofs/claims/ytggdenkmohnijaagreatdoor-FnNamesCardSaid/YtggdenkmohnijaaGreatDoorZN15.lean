/- Texts of this proof, merged: HexT, BigP, Big1. No condition beyond what each theorem states. -/
import Derived.Deep.RegionLaw
import Derived.Test.YtggdenkmohnijaaGreatDoorZN14
import Derived.Test.YtggdenkmohnijaaGreatDoorZN7
set_option linter.unusedSimpArgs false
set_option linter.unnecessarySimpa false
namespace Go.Proofs.YtggdenkmohnijaaGreatDoor
open Go.ChangeShapes Go.WideShapes Go.ChangeAt Go.RowKit Go.Joins
set_option linter.unusedVariables false
set_option maxRecDepth 100000
def hexD (k : Int) : Int := if k < 10 then 48 + k else 87 + k
def hexL : List UInt8 → List Int
  | [] => []
  | b :: r => hexD ((b.toNat : Int) / 16) :: hexD ((b.toNat : Int) % 16) :: hexL r
theorem hexL_append (a b : List UInt8) : hexL (a ++ b) = hexL a ++ hexL b := by
  induction a with
  | nil => rfl
  | cons x r ih => simp [hexL, ih]
theorem hexL_len (a : List UInt8) : (hexL a).length = 2 * a.length := by
  induction a with
  | nil => rfl
  | cons x r ih => simp [hexL, ih]; omega
theorem hexD_u8 (k : Int) (h0 : 0 ≤ k) (h : k < 16) : U8 (hexD k) := by
  unfold hexD U8; split <;> omega
theorem hexL_succ (s : ByteArray) (j : Nat) (h : j < s.size) : hexL (s.data.toList.take (j + 1)) = hexL (s.data.toList.take j) ++ [hexD (((s[j]'h).toNat : Int) / 16), hexD (((s[j]'h).toNat : Int) % 16)] := by
  have hl : j < s.data.toList.length := by rw [← Lib.size_eq]; exact h
  rw [take_snoc _ j hl, hexL_append]; rfl
theorem hex_dig (k : Int) (h0 : 0 ≤ k) (h : k < 16) : ∀ hh : k.toNat < (⟨#[48, 49, 50, 51, 52, 53, 54, 55, 56, 57, 97, 98, 99, 100, 101, 102]⟩ : ByteArray).size, ((((⟨#[48, 49, 50, 51, 52, 53, 54, 55, 56, 57, 97, 98, 99, 100, 101, 102]⟩ : ByteArray))[k.toNat]'hh).toNat : Int) = hexD k := by
  obtain rfl | rfl | rfl | rfl | rfl | rfl | rfl | rfl | rfl | rfl | rfl | rfl | rfl | rfl | rfl | rfl : k = 0 ∨ k = 1 ∨ k = 2 ∨ k = 3 ∨ k = 4 ∨ k = 5 ∨ k = 6 ∨ k = 7 ∨ k = 8 ∨ k = 9 ∨ k = 10 ∨ k = 11 ∨ k = 12 ∨ k = 13 ∨ k = 14 ∨ k = 15 := by omega
  all_goals intro hh; rfl
theorem and15 : ∀ X : Fin 256, bits .and .u8 ((X.val : Nat) : Int) 15 = ((X.val : Nat) : Int) % 16 := by decide
def hexT (s : ByteArray) : ByteArray := strOfNums (hexL s.data.toList)
theorem info_Byte2 : (Tryz.prog.info? 5).map (fun i => (i.zero, i.size, i.bytes)) = some (some (.int .u8 0), 1, 1) := by kernel_rfl
theorem make_cap {P : Program} {t e : TypeId} {z : Value} {size bytes : Nat} {cs : Array Value} (ht : P.underlying t = some (.slice e)) (hinfo : (P.info? e).map (fun i => (i.zero, i.size, i.bytes)) = some (some z, size, bytes)) (hcs : z.cells = cs)
    (n : Nat) (x : Int) (hx : x = n) (h : bytes * n ≤ 281474976710656) (h2 : n ≤ 9223372036854775807) (w : World) :
    (Instr.makeSlice t (.int .i64 0) (.int .i64 x)).run P w = .ok (.slice (some ⟨w.heap.size, 0, none⟩) 0 n) (w.alloc (.cells (madeCells cs (n * size)) e)) := by
  obtain ⟨i, hi, hz0, hz1, hz2⟩ := info_parts hinfo
  subst hz1 hz2 hcs hx
  have := run_make w t e i z ht hi hz0 .i64 .i64 0 (n : Int) (by omega) (by omega) (by rw [← Int.natCast_mul]; omega) (by omega)
  simpa using this
theorem AppL.made {E : World → Nat → Nat → Int → List Nat → Prop} {e : TypeId} (w : World) (rlo n : Nat) (v : Value) (hl : rlo ≤ w.heap.size) (hn : n ≤ maxLen) : AppL E 1 e (w.alloc (.cells (madeCells #[v] (n * 1)) e)) rlo (Option.some ⟨w.heap.size, 0, none⟩) n [] [] :=
  Or.inr ⟨w.heap.size, madeCells #[v] (n * 1), rfl, hl, heap_alloc_new w _, Nat.zero_le _, hn, size_madeCells _ _, rfl, by simp⟩
theorem conv_bytes (w : World) (rlo : Nat) (a : Option Addr) (cap : Nat) (l : List Int) (F : List Nat) (h : AppL EByte 1 5 w rlo a cap l F) :
    (convert 22 9 (.slice a l.length cap)).run Tryz.prog w = .ok (.string (strOfNums l)) w := by
  rcases h with ⟨rfl, rfl, rfl, _⟩ | ⟨g, cur, rfl, h1, h3, h4, h5, h6, h7, h8⟩
  · exact run_convert_bytes_nil w 22 5 Tryz.underlying22 Tryz.underlying5 0 0 9 Tryz.underlying9
  · exact run_convert_bytes_arg w 22 5 Tryz.underlying22 Tryz.underlying5 g 0 l.length cap l rfl (fun i hi => by
      obtain ⟨F', hv, _⟩ := h7.get i hi
      have := hv.2.1
      rw [Nat.mul_one] at this
      rw [this, List.getD_eq_getElem?_getD, List.getElem?_eq_getElem hi]; rfl) 9 Tryz.underlying9
set_option maxHeartbeats 4000000 in
theorem spec_HexText (s : ByteArray) (w : World) (hs : s.size ≤ 1048576) :
    Calls Tryz.prog 211 #[.string s] w fun e w' => e = .returned (.string (hexT s)) ∧ Below w.heap.size w w' := by
  have h0 := AppL.empty (E := EByte) (n := 1) (e := 5) w w.heap.size (Nat.le_refl _)
  go_enter Tryz.func211, Tryz.ntmps211
  go_wp2_with fail
  go_loopw [3, 4] (fun q i wr => ∃ (j : Nat) (ar : Option Addr) (cr : Nat), j ≤ s.size ∧ i = .int .i64 j ∧ q = .slice ar (hexL (s.data.toList.take j)).length cr ∧ AppL EByte 1 5 wr w.heap.size ar cr (hexL (s.data.toList.take j)) [] ∧ Below w.heap.size w wr) (fun _ i _ => s.size - (intOf i).toNat)
  case atStart => exact ⟨0, _, _, Nat.zero_le _, rfl, rfl, h0, below1 _ _⟩
  case round =>
    obtain ⟨j, ar, cr, hj, rfl, rfl, happ, hb⟩ := hrel
    have hbs := hb.size
    have HA := Lib.hid happ; clear happ
    by_cases hlt : j < s.size
    · have HLEN := Lib.hid (Lib.size_eq s)
      have hlen : (hexL (s.data.toList.take j)).length = 2 * j := by rw [hexL_len, List.length_take]; have := HLEN.out; omega
      have hx := (s[j]'hlt).toNat_lt
      have hand := and15 ⟨(s[j]'hlt).toNat, hx⟩
      simp only at hand
      have hc1 : 0 ≤ ((s[j]'hlt).toNat : Int) / 16 ∧ ((s[j]'hlt).toNat : Int) / 16 < 16 := by omega
      have hc2 : 0 ≤ ((s[j]'hlt).toNat : Int) % 16 ∧ ((s[j]'hlt).toNat : Int) % 16 < 16 := by omega
      have hv1 := hex_dig _ hc1.1 hc1.2
      have hv2 := hex_dig _ hc2.1 hc2.2
      have HS := Lib.hid (hexL_succ s j hlt)
      have HU1 := Lib.hid (hexD_u8 _ hc1.1 hc1.2)
      have HU2 := Lib.hid (hexD_u8 _ hc2.1 hc2.2)
      go_wp2_with fail
      refine wp_region_held_drew (S := fun w' => (∀ b o, b < w.heap.size → w'.cell? ⟨b, o, none⟩ = wr.cell? ⟨b, o, none⟩) ∧ Below (w.heap.size) wr w') (by kernel_rfl) (by first | exact ⟨fun _ _ _ => rfl, (Below.refl _ _).drew⟩ | exact keep_step (by assumption) (Below.drew (Below.refl _ _)) (Nat.le_refl _) | exact keep_step (by assumption) (by assumption) (by first | omega | ((try simp only [World.size_drew, size_alloc]); omega) | (have := (‹(_ ∧ Below (w.heap.size) wr _)›).2.size; (try simp only [World.size_drew, size_alloc] at this ⊢); omega))) (fun hHeld => ?_)
      refine wpAnyH_take (i := 0) (oi := ⟨some 12, _, _, _, _, _⟩) (v := ?_) rfl (by kernel_rfl) (by kernel_rfl) (by kernel_rfl) (fun _ _ _ h => h) (Or.inl ⟨by rfl, ?_⟩) (by assumption) ?_
      rotate_left 1
      · (intro w hSw; (try dsimp only at hSw); go_simp; (try simp only [hand, dif_pos hc1, dif_pos hc2, hv1, hv2]); try (with_reducible rfl))
      try simp only [Act.put, List.setIfInBounds_toArray, List.set_cons_zero, List.set_cons_succ]
      refine wpAnyH_take (i := 1) (oi := ⟨some 13, _, _, _, _, _⟩) (v := ?_) rfl (by kernel_rfl) (by kernel_rfl) (by kernel_rfl) (fun _ _ _ h => h) (Or.inl ⟨by rfl, ?_⟩) (by assumption) ?_
      rotate_left 1
      · (intro w hSw; (try dsimp only at hSw); go_simp; (try simp only [hand, dif_pos hc1, dif_pos hc2, hv1, hv2]); try (with_reducible rfl))
      try simp only [Act.put, List.setIfInBounds_toArray, List.set_cons_zero, List.set_cons_succ]
      refine wpAnyH_take (i := 2) (oi := ⟨some 14, _, _, _, _, _⟩) (v := ?_) rfl (by kernel_rfl) (by kernel_rfl) (by kernel_rfl) (fun _ _ _ h => h) (Or.inl ⟨by rfl, ?_⟩) (by assumption) ?_
      rotate_left 1
      · (intro w hSw; (try dsimp only at hSw); go_simp; (try simp only [hand, dif_pos hc1, dif_pos hc2, hv1, hv2]); try (with_reducible rfl))
      try simp only [Act.put, List.setIfInBounds_toArray, List.set_cons_zero, List.set_cons_succ]
      refine wpAnyH_take (i := 3) (oi := ⟨some 15, _, _, _, _, _⟩) (v := ?_) rfl (by kernel_rfl) (by kernel_rfl) (by kernel_rfl) (fun _ _ _ h => h) (Or.inl ⟨by rfl, ?_⟩) (by assumption) ?_
      rotate_left 1
      · (intro w hSw; (try dsimp only at hSw); go_simp; (try simp only [hand, dif_pos hc1, dif_pos hc2, hv1, hv2]); try (with_reducible rfl))
      try simp only [Act.put, List.setIfInBounds_toArray, List.set_cons_zero, List.set_cons_succ]
      refine wpAnyH_take (i := 4) (oi := ⟨some 16, _, _, _, _, _⟩) (v := ?_) rfl (by kernel_rfl) (by kernel_rfl) (by kernel_rfl) (fun _ _ _ h => h) (Or.inl ⟨by rfl, ?_⟩) (by assumption) ?_
      rotate_left 1
      · (intro w hSw; (try dsimp only at hSw); go_simp; (try simp only [hand, dif_pos hc1, dif_pos hc2, hv1, hv2]); try (with_reducible rfl))
      try simp only [Act.put, List.setIfInBounds_toArray, List.set_cons_zero, List.set_cons_succ]
      refine wpAnyH_take (i := 5) (oi := ⟨some 17, _, _, _, _, _⟩) (v := ?_) rfl (by kernel_rfl) (by kernel_rfl) (by kernel_rfl) (fun _ _ _ h => h) (Or.inl ⟨by rfl, ?_⟩) (by assumption) ?_
      rotate_left 1
      · (intro w hSw; (try dsimp only at hSw); go_simp; (try simp only [hand, dif_pos hc1, dif_pos hc2, hv1, hv2]); try (with_reducible rfl))
      try simp only [Act.put, List.setIfInBounds_toArray, List.set_cons_zero, List.set_cons_succ]
      refine wpAnyH_take (i := 6) (oi := ⟨some 18, _, _, _, _, _⟩) (v := ?_) rfl (by kernel_rfl) (by kernel_rfl) (by kernel_rfl) (fun _ _ _ h => h) (Or.inl ⟨by rfl, ?_⟩) (by assumption) ?_
      rotate_left 1
      · (intro w hSw; (try dsimp only at hSw); go_simp; (try simp only [hand, dif_pos hc1, dif_pos hc2, hv1, hv2]); try (with_reducible rfl))
      try simp only [Act.put, List.setIfInBounds_toArray, List.set_cons_zero, List.set_cons_succ]
      refine wpAnyH_take (i := 7) (oi := ⟨some 19, _, _, _, _, _⟩) (v := ?_) rfl (by kernel_rfl) (by kernel_rfl) (by kernel_rfl) (fun _ _ _ h => h) (Or.inl ⟨by rfl, ?_⟩) (by assumption) ?_
      rotate_left 1
      · (intro w hSw; (try dsimp only at hSw); go_simp; (try simp only [hand, dif_pos hc1, dif_pos hc2, hv1, hv2]); try (with_reducible rfl))
      try simp only [Act.put, List.setIfInBounds_toArray, List.set_cons_zero, List.set_cons_succ]
      refine wpAnyH_take (i := 8) (oi := ⟨some 20, _, _, _, _, _⟩) (v := ?_) rfl (by kernel_rfl) (by kernel_rfl) (by kernel_rfl) (fun _ _ _ h => h) (Or.inl ⟨by rfl, ?_⟩) (by assumption) ?_
      rotate_left 1
      · (intro w hSw; (try dsimp only at hSw); go_simp; (try simp only [hand, dif_pos hc1, dif_pos hc2, hv1, hv2]); try (with_reducible rfl))
      try simp only [Act.put, List.setIfInBounds_toArray, List.set_cons_zero, List.set_cons_succ]
      refine wpAnyH_take (i := 9) (oi := ⟨some 21, _, _, _, _, _⟩) (v := ?_) rfl (by kernel_rfl) (by kernel_rfl) (by kernel_rfl) (fun _ _ _ h => h) (Or.inl ⟨by rfl, ?_⟩) (by assumption) ?_
      rotate_left 1
      · (intro w hSw; (try dsimp only at hSw); go_simp; (try simp only [hand, dif_pos hc1, dif_pos hc2, hv1, hv2]); try (with_reducible rfl))
      try simp only [Act.put, List.setIfInBounds_toArray, List.set_cons_zero, List.set_cons_succ]
      refine wpAnyH_take (i := 10) (oi := ⟨some 22, _, _, _, _, _⟩) (v := ?_) rfl (by kernel_rfl) (by kernel_rfl) (by kernel_rfl) (fun _ _ _ h => h) (Or.inl ⟨by rfl, ?_⟩) (by assumption) ?_
      rotate_left 1
      · (intro w hSw; (try dsimp only at hSw); go_simp; (try simp only [hand, dif_pos hc1, dif_pos hc2, hv1, hv2]); try (with_reducible rfl))
      try simp only [Act.put, List.setIfInBounds_toArray, List.set_cons_zero, List.set_cons_succ]
      refine wpAnyH_ready (rs := [11]) (by kernel_rfl) (by simp) ?_
      refine AllReadyH.cons (o := ⟨some 23, _, _, _, _, _⟩) rfl (fun K hK => ?_) AllReadyH.nil
      go_simp
      go_wp2_with fail
      refine hK.out _ _ (by first | (with_reducible exact keep_step (by assumption) (below1 _ _) (by first | omega | ((try simp only [World.size_drew, size_alloc]); omega) | (have := (‹(_ ∧ Below (w.heap.size) wr _)›).2.size; (try simp only [World.size_drew, size_alloc] at this ⊢); omega))) | (exact keep_step (by assumption) (below1 _ _) (by first | omega | ((try simp only [World.size_drew, size_alloc]); omega) | (have := (‹(_ ∧ Below (w.heap.size) wr _)›).2.size; (try simp only [World.size_drew, size_alloc] at this ⊢); omega)))) (fun hHeld => ?_)
      clear hK K
      try simp only [Act.put, List.setIfInBounds_toArray, List.set_cons_zero, List.set_cons_succ]
      refine wpAnyH_ready (rs := [12]) (by kernel_rfl) (by simp) ?_
      refine AllReadyH.cons (o := ⟨some 24, _, _, _, _, _⟩) rfl (fun K hK => ?_) AllReadyH.nil
      focus (((refine step_appL EByte.elem rfl _ _ 22 rfl (.int .u8 0) 1 Tryz.underlying22 info_Byte2 rfl w.heap.size ar cr (hexL (s.data.toList.take j)) [] (by first | rfl | (rw [hlen]; rfl)) (HA.out.agree EByte.elem (fun f hf => (below1 wr.drew _).block f hf) (by omega)) (by simp; omega) wr.heap.size 0 2 2 [hexD (((s[j]'hlt).toNat : Int) / 16), hexD (((s[j]'hlt).toNat : Int) % 16)] [] rfl rfl ⟨[], [], rfl, ⟨rfl, (Is.new wr.drew #[.int .u8 (hexD (((s[j]'hlt).toNat : Int) / 16)), .int .u8 (hexD (((s[j]'hlt).toNat : Int) % 16))] 5).cell 0 rfl, HU1.out⟩, ⟨[], [], rfl, ⟨rfl, (Is.new wr.drew #[.int .u8 (hexD (((s[j]'hlt).toNat : Int) / 16)), .int .u8 (hexD (((s[j]'hlt).toNat : Int) % 16))] 5).cell 1 rfl, HU2.out⟩, rfl⟩⟩ (by simp) (by omega) (by rw [hlen]; unfold maxLen; omega) (by rw [hlen]; omega) ?_; intro ar2 cr2 w4 happ4 hb4)); refine hK.out _ _ (by first | (with_reducible exact keep_step (by assumption) (by assumption) (by first | omega | ((try simp only [World.size_drew, size_alloc]); omega) | (have := (‹(_ ∧ Below (w.heap.size) wr _)›).2.size; (try simp only [World.size_drew, size_alloc] at this ⊢); omega))) | first | exact ⟨fun _ _ _ => rfl, (Below.refl _ _).drew⟩ | exact keep_step (by assumption) (Below.drew (Below.refl _ _)) (Nat.le_refl _) | exact keep_step (by assumption) (by assumption) (by first | omega | ((try simp only [World.size_drew, size_alloc]); omega) | (have := (‹(_ ∧ Below (w.heap.size) wr _)›).2.size; (try simp only [World.size_drew, size_alloc] at this ⊢); omega))) (fun hHeld => ?_); clear hK K; try simp only [Act.put, List.setIfInBounds_toArray, List.set_cons_zero, List.set_cons_succ])
      refine wpAnyH_take (i := 13) (oi := ⟨some 3, _, _, _, _, _⟩) (v := ?_) rfl (by kernel_rfl) (by kernel_rfl) (by kernel_rfl) (fun _ _ _ h => h) (Or.inl ⟨by rfl, ?_⟩) (by assumption) ?_
      rotate_left 1
      · (intro w hSw; (try dsimp only at hSw); go_simp; (try simp only [hand, dif_pos hc1, dif_pos hc2, hv1, hv2]); try (with_reducible rfl))
      try simp only [Act.put, List.setIfInBounds_toArray, List.set_cons_zero, List.set_cons_succ]
      refine wpAnyH_done (by kernel_rfl) ?_ _
      have HB4 := Lib.hid (show Below w.heap.size wr _ from (‹_ ∧ Below (w.heap.size) wr _›).2)
      go_wp2_with fail
      go_roundw
      case rel => exact ⟨j + 1, ar2, cr2, by omega, by go_num, by rw [HS.out, List.length_append, hlen]; rfl, by rw [HS.out]; exact happ4, hb.trans HB4.out⟩
      case measure => simp [intOf]; omega
    · have hjj : s.size = j := by omega
      have HJ := Lib.hid (show s.data.toList.take j = s.data.toList from by rw [← hjj, Lib.size_eq, List.take_length]); clear hjj
      have hcv := conv_bytes wr w.heap.size ar cr _ [] HA.out
      rw [HJ.out] at hcv ⊢
      have HH := Lib.hid (show hexT s = strOfNums (hexL s.data.toList) from rfl)
      generalize hexL s.data.toList = L at *
      generalize strOfNums L = O at *
      go_wp2_with fail
      go_ret
      exact ⟨ret_s HH.out.symm, hb⟩
set_option maxHeartbeats 4000000 in
theorem impl_HexText (s : ByteArray) (w : World) (hs : s.size ≤ 1048576) :
    Calls Tryz.prog 203 #[.string s] w fun e w' => e = .returned (.string (hexT s)) ∧ Below w.heap.size w w' := by
  have h0 := AppL.made (E := EByte) (e := 5) w w.heap.size (2 * s.size) (.int .u8 0) (Nat.le_refl _) (by unfold maxLen; omega)
  have hmk := fun w => make_cap (P := Tryz.prog) Tryz.underlying22 info_Byte2 rfl (2 * s.size) (2 * (s.size : Int)) (by omega) (by omega) (by omega) w
  go_enter Tryz.func203, Tryz.ntmps203
  go_wp2_with fail
  clear hmk
  rw [Nat.mul_one] at h0
  go_loopw [3, 11, 4] (fun q i _ wr => ∃ (j : Nat) (ar : Option Addr) (cr : Nat), j ≤ s.size ∧ i = .int .i64 j ∧ q = .slice ar (hexL (s.data.toList.take j)).length cr ∧ AppL EByte 1 5 wr w.heap.size ar cr (hexL (s.data.toList.take j)) [] ∧ Below w.heap.size w wr) (fun _ i _ _ => s.size - (intOf i).toNat)
  case atStart => exact ⟨0, _, _, Nat.zero_le _, rfl, rfl, h0, below1 _ _⟩
  case round =>
    obtain ⟨j, ar, cr, hj, rfl, rfl, happ, hb⟩ := hrel
    have hbs := hb.size
    have HA := Lib.hid happ; clear happ
    by_cases hlt : j < s.size
    · have HLEN := Lib.hid (Lib.size_eq s)
      have hlen : (hexL (s.data.toList.take j)).length = 2 * j := by rw [hexL_len, List.length_take]; have := HLEN.out; omega
      have hx := (s[j]'hlt).toNat_lt
      have hand := and15 ⟨(s[j]'hlt).toNat, hx⟩
      simp only at hand
      have hc1 : 0 ≤ ((s[j]'hlt).toNat : Int) / 16 ∧ ((s[j]'hlt).toNat : Int) / 16 < 16 := by omega
      have hc2 : 0 ≤ ((s[j]'hlt).toNat : Int) % 16 ∧ ((s[j]'hlt).toNat : Int) % 16 < 16 := by omega
      have hv1 := hex_dig _ hc1.1 hc1.2
      have hv2 := hex_dig _ hc2.1 hc2.2
      have HS := Lib.hid (hexL_succ s j hlt)
      have HU1 := Lib.hid (hexD_u8 _ hc1.1 hc1.2)
      have HU2 := Lib.hid (hexD_u8 _ hc2.1 hc2.2)
      go_wp2_with fail
      refine wp_region_held_drew (S := fun w' => (∀ b o, b < w.heap.size → w'.cell? ⟨b, o, none⟩ = wr.cell? ⟨b, o, none⟩) ∧ Below (w.heap.size) wr w') (by kernel_rfl) (by first | exact ⟨fun _ _ _ => rfl, (Below.refl _ _).drew⟩ | exact keep_step (by assumption) (Below.drew (Below.refl _ _)) (Nat.le_refl _) | exact keep_step (by assumption) (by assumption) (by first | omega | ((try simp only [World.size_drew, size_alloc]); omega) | (have := (‹(_ ∧ Below (w.heap.size) wr _)›).2.size; (try simp only [World.size_drew, size_alloc] at this ⊢); omega))) (fun hHeld => ?_)
      refine wpAnyH_take (i := 0) (oi := ⟨some 14, _, _, _, _, _⟩) (v := ?_) rfl (by kernel_rfl) (by kernel_rfl) (by kernel_rfl) (fun _ _ _ h => h) (Or.inl ⟨by rfl, ?_⟩) (by assumption) ?_
      rotate_left 1
      · (intro w hSw; (try dsimp only at hSw); go_simp; (try simp only [hand, dif_pos hc1, dif_pos hc2, hv1, hv2]); try (with_reducible rfl))
      try simp only [Act.put, List.setIfInBounds_toArray, List.set_cons_zero, List.set_cons_succ]
      refine wpAnyH_take (i := 1) (oi := ⟨some 15, _, _, _, _, _⟩) (v := ?_) rfl (by kernel_rfl) (by kernel_rfl) (by kernel_rfl) (fun _ _ _ h => h) (Or.inl ⟨by rfl, ?_⟩) (by assumption) ?_
      rotate_left 1
      · (intro w hSw; (try dsimp only at hSw); go_simp; (try simp only [hand, dif_pos hc1, dif_pos hc2, hv1, hv2]); try (with_reducible rfl))
      try simp only [Act.put, List.setIfInBounds_toArray, List.set_cons_zero, List.set_cons_succ]
      refine wpAnyH_take (i := 2) (oi := ⟨some 16, _, _, _, _, _⟩) (v := ?_) rfl (by kernel_rfl) (by kernel_rfl) (by kernel_rfl) (fun _ _ _ h => h) (Or.inl ⟨by rfl, ?_⟩) (by assumption) ?_
      rotate_left 1
      · (intro w hSw; (try dsimp only at hSw); go_simp; (try simp only [hand, dif_pos hc1, dif_pos hc2, hv1, hv2]); try (with_reducible rfl))
      try simp only [Act.put, List.setIfInBounds_toArray, List.set_cons_zero, List.set_cons_succ]
      refine wpAnyH_take (i := 3) (oi := ⟨some 17, _, _, _, _, _⟩) (v := ?_) rfl (by kernel_rfl) (by kernel_rfl) (by kernel_rfl) (fun _ _ _ h => h) (Or.inl ⟨by rfl, ?_⟩) (by assumption) ?_
      rotate_left 1
      · (intro w hSw; (try dsimp only at hSw); go_simp; (try simp only [hand, dif_pos hc1, dif_pos hc2, hv1, hv2]); try (with_reducible rfl))
      try simp only [Act.put, List.setIfInBounds_toArray, List.set_cons_zero, List.set_cons_succ]
      refine wpAnyH_take (i := 4) (oi := ⟨some 18, _, _, _, _, _⟩) (v := ?_) rfl (by kernel_rfl) (by kernel_rfl) (by kernel_rfl) (fun _ _ _ h => h) (Or.inl ⟨by rfl, ?_⟩) (by assumption) ?_
      rotate_left 1
      · (intro w hSw; (try dsimp only at hSw); go_simp; (try simp only [hand, dif_pos hc1, dif_pos hc2, hv1, hv2]); try (with_reducible rfl))
      try simp only [Act.put, List.setIfInBounds_toArray, List.set_cons_zero, List.set_cons_succ]
      refine wpAnyH_take (i := 5) (oi := ⟨some 19, _, _, _, _, _⟩) (v := ?_) rfl (by kernel_rfl) (by kernel_rfl) (by kernel_rfl) (fun _ _ _ h => h) (Or.inl ⟨by rfl, ?_⟩) (by assumption) ?_
      rotate_left 1
      · (intro w hSw; (try dsimp only at hSw); go_simp; (try simp only [hand, dif_pos hc1, dif_pos hc2, hv1, hv2]); try (with_reducible rfl))
      try simp only [Act.put, List.setIfInBounds_toArray, List.set_cons_zero, List.set_cons_succ]
      refine wpAnyH_take (i := 6) (oi := ⟨some 20, _, _, _, _, _⟩) (v := ?_) rfl (by kernel_rfl) (by kernel_rfl) (by kernel_rfl) (fun _ _ _ h => h) (Or.inl ⟨by rfl, ?_⟩) (by assumption) ?_
      rotate_left 1
      · (intro w hSw; (try dsimp only at hSw); go_simp; (try simp only [hand, dif_pos hc1, dif_pos hc2, hv1, hv2]); try (with_reducible rfl))
      try simp only [Act.put, List.setIfInBounds_toArray, List.set_cons_zero, List.set_cons_succ]
      refine wpAnyH_take (i := 7) (oi := ⟨some 21, _, _, _, _, _⟩) (v := ?_) rfl (by kernel_rfl) (by kernel_rfl) (by kernel_rfl) (fun _ _ _ h => h) (Or.inl ⟨by rfl, ?_⟩) (by assumption) ?_
      rotate_left 1
      · (intro w hSw; (try dsimp only at hSw); go_simp; (try simp only [hand, dif_pos hc1, dif_pos hc2, hv1, hv2]); try (with_reducible rfl))
      try simp only [Act.put, List.setIfInBounds_toArray, List.set_cons_zero, List.set_cons_succ]
      refine wpAnyH_take (i := 8) (oi := ⟨some 22, _, _, _, _, _⟩) (v := ?_) rfl (by kernel_rfl) (by kernel_rfl) (by kernel_rfl) (fun _ _ _ h => h) (Or.inl ⟨by rfl, ?_⟩) (by assumption) ?_
      rotate_left 1
      · (intro w hSw; (try dsimp only at hSw); go_simp; (try simp only [hand, dif_pos hc1, dif_pos hc2, hv1, hv2]); try (with_reducible rfl))
      try simp only [Act.put, List.setIfInBounds_toArray, List.set_cons_zero, List.set_cons_succ]
      refine wpAnyH_take (i := 9) (oi := ⟨some 23, _, _, _, _, _⟩) (v := ?_) rfl (by kernel_rfl) (by kernel_rfl) (by kernel_rfl) (fun _ _ _ h => h) (Or.inl ⟨by rfl, ?_⟩) (by assumption) ?_
      rotate_left 1
      · (intro w hSw; (try dsimp only at hSw); go_simp; (try simp only [hand, dif_pos hc1, dif_pos hc2, hv1, hv2]); try (with_reducible rfl))
      try simp only [Act.put, List.setIfInBounds_toArray, List.set_cons_zero, List.set_cons_succ]
      refine wpAnyH_take (i := 10) (oi := ⟨some 24, _, _, _, _, _⟩) (v := ?_) rfl (by kernel_rfl) (by kernel_rfl) (by kernel_rfl) (fun _ _ _ h => h) (Or.inl ⟨by rfl, ?_⟩) (by assumption) ?_
      rotate_left 1
      · (intro w hSw; (try dsimp only at hSw); go_simp; (try simp only [hand, dif_pos hc1, dif_pos hc2, hv1, hv2]); try (with_reducible rfl))
      try simp only [Act.put, List.setIfInBounds_toArray, List.set_cons_zero, List.set_cons_succ]
      refine wpAnyH_ready (rs := [11]) (by kernel_rfl) (by simp) ?_
      refine AllReadyH.cons (o := ⟨some 25, _, _, _, _, _⟩) rfl (fun K hK => ?_) AllReadyH.nil
      go_simp
      go_wp2_with fail
      refine hK.out _ _ (by first | (with_reducible exact keep_step (by assumption) (below1 _ _) (by first | omega | ((try simp only [World.size_drew, size_alloc]); omega) | (have := (‹(_ ∧ Below (w.heap.size) wr _)›).2.size; (try simp only [World.size_drew, size_alloc] at this ⊢); omega))) | (exact keep_step (by assumption) (below1 _ _) (by first | omega | ((try simp only [World.size_drew, size_alloc]); omega) | (have := (‹(_ ∧ Below (w.heap.size) wr _)›).2.size; (try simp only [World.size_drew, size_alloc] at this ⊢); omega)))) (fun hHeld => ?_)
      clear hK K
      try simp only [Act.put, List.setIfInBounds_toArray, List.set_cons_zero, List.set_cons_succ]
      refine wpAnyH_ready (rs := [12]) (by kernel_rfl) (by simp) ?_
      refine AllReadyH.cons (o := ⟨some 26, _, _, _, _, _⟩) rfl (fun K hK => ?_) AllReadyH.nil
      focus (((refine step_appL EByte.elem rfl _ _ 22 rfl (.int .u8 0) 1 Tryz.underlying22 info_Byte2 rfl w.heap.size ar cr (hexL (s.data.toList.take j)) [] (by first | rfl | (rw [hlen]; rfl)) (HA.out.agree EByte.elem (fun f hf => (below1 wr.drew _).block f hf) (by omega)) (by simp; omega) wr.heap.size 0 2 2 [hexD (((s[j]'hlt).toNat : Int) / 16), hexD (((s[j]'hlt).toNat : Int) % 16)] [] rfl rfl ⟨[], [], rfl, ⟨rfl, (Is.new wr.drew #[.int .u8 (hexD (((s[j]'hlt).toNat : Int) / 16)), .int .u8 (hexD (((s[j]'hlt).toNat : Int) % 16))] 5).cell 0 rfl, HU1.out⟩, ⟨[], [], rfl, ⟨rfl, (Is.new wr.drew #[.int .u8 (hexD (((s[j]'hlt).toNat : Int) / 16)), .int .u8 (hexD (((s[j]'hlt).toNat : Int) % 16))] 5).cell 1 rfl, HU2.out⟩, rfl⟩⟩ (by simp) (by omega) (by rw [hlen]; unfold maxLen; omega) (by rw [hlen]; omega) ?_; intro ar2 cr2 w4 happ4 hb4)); refine hK.out _ _ (by first | (with_reducible exact keep_step (by assumption) (by assumption) (by first | omega | ((try simp only [World.size_drew, size_alloc]); omega) | (have := (‹(_ ∧ Below (w.heap.size) wr _)›).2.size; (try simp only [World.size_drew, size_alloc] at this ⊢); omega))) | first | exact ⟨fun _ _ _ => rfl, (Below.refl _ _).drew⟩ | exact keep_step (by assumption) (Below.drew (Below.refl _ _)) (Nat.le_refl _) | exact keep_step (by assumption) (by assumption) (by first | omega | ((try simp only [World.size_drew, size_alloc]); omega) | (have := (‹(_ ∧ Below (w.heap.size) wr _)›).2.size; (try simp only [World.size_drew, size_alloc] at this ⊢); omega))) (fun hHeld => ?_); clear hK K; try simp only [Act.put, List.setIfInBounds_toArray, List.set_cons_zero, List.set_cons_succ])
      refine wpAnyH_take (i := 13) (oi := ⟨some 3, _, _, _, _, _⟩) (v := ?_) rfl (by kernel_rfl) (by kernel_rfl) (by kernel_rfl) (fun _ _ _ h => h) (Or.inl ⟨by rfl, ?_⟩) (by assumption) ?_
      rotate_left 1
      · (intro w hSw; (try dsimp only at hSw); go_simp; (try simp only [hand, dif_pos hc1, dif_pos hc2, hv1, hv2]); try (with_reducible rfl))
      try simp only [Act.put, List.setIfInBounds_toArray, List.set_cons_zero, List.set_cons_succ]
      refine wpAnyH_done (by kernel_rfl) ?_ _
      have HB4 := Lib.hid (show Below w.heap.size wr _ from (‹_ ∧ Below (w.heap.size) wr _›).2)
      go_wp2_with fail
      go_roundw
      case rel => exact ⟨j + 1, ar2, cr2, by omega, by go_num, by rw [HS.out, List.length_append, hlen]; rfl, by rw [HS.out]; exact happ4, hb.trans HB4.out⟩
      case measure => simp [intOf]; omega
    · have hjj : s.size = j := by omega
      have HJ := Lib.hid (show s.data.toList.take j = s.data.toList from by rw [← hjj, Lib.size_eq, List.take_length]); clear hjj
      have hcv := conv_bytes wr w.heap.size ar cr _ [] HA.out
      rw [HJ.out] at hcv ⊢
      have HH := Lib.hid (show hexT s = strOfNums (hexL s.data.toList) from rfl)
      generalize hexL s.data.toList = L at *
      generalize strOfNums L = O at *
      go_wp2_with fail
      go_ret
      exact ⟨ret_s HH.out.symm, hb⟩
def fitW (n w : Int) : Prop := 0 ≤ n ∧ ((w = 1 ∧ n < 256) ∨ (w = 2 ∧ n < 65536) ∨ (w = 4 ∧ n < 4294967296) ∨ w = 8)
instance (n w : Int) : Decidable (fitW n w) := by unfold fitW; infer_instance
def widthD (n : Int) : Int := if n < 0 then 0 else if n < 256 then 1 else if n < 65536 then 2 else if n < 4294967296 then 4 else 8
def headOk (maj n wide : Int) : Prop := (0 ≤ maj ∧ maj ≤ 7) ∧ (0 ≤ n ∧ n ≤ 1000000000000000) ∧ ((wide = 0 ∧ n ≤ 23) ∨ ((wide = 1 ∨ wide = 2 ∨ wide = 4 ∨ wide = 8) ∧ widthD n ≤ wide) ∨ (wide = -1 ∧ n = 0 ∧ maj ≠ 0 ∧ maj ≠ 1 ∧ maj ≠ 6))
instance (a b c : Int) : Decidable (headOk a b c) := by unfold headOk; infer_instance
end Go.Proofs.YtggdenkmohnijaaGreatDoor
