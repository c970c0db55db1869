/- Texts of this proof, merged: HexT, LeafP, LeafA. No condition beyond what each theorem states. -/
import Derived.Test.YtpifadjlbjifhaaGreatDoorRows
import Derived.WalkKit
import Derived.ProofKit
import Derived.OpenShut
import Derived.Handy
import Derived.Lib.Hide
import Derived.Lib.SmallJoins
import Derived.Laws.BytesArg
import Derived.Deep.RegionHeld3
import Derived.Deep.AppendLies
import Derived.Deep.RegionLaw
import Derived.Deep.QuietTactic
import Derived.BigQuiet
import Derived.Lib.ValidAsc
import Derived.Test.YtpifadjlbjifhaaGreatDoorZF1
import Derived.Test.YtpifadjlbjifhaaGreatDoorZF2
import Derived.Test.YtpifadjlbjifhaaGreatDoorZF3
import Derived.Test.YtpifadjlbjifhaaGreatDoorZF4
import Derived.Test.YtpifadjlbjifhaaGreatDoorZF7
import Derived.Lib.ItoaNum
import Derived.Lib.ItoaLen
import Derived.Lib.AppendIntMem
import Derived.Test.YtpifadjlbjifhaaGreatDoorShelf
import Derived.Test.YtpifadjlbjifhaaGreatDoorZF5
import Derived.Test.YtpifadjlbjifhaaGreatDoorZF8
import Derived.Test.YtpifadjlbjifhaaGreatDoorZF9
import Derived.Test.YtpifadjlbjifhaaGreatDoorZF10
import Derived.Test.YtpifadjlbjifhaaGreatDoorZF11
import Derived.Test.YtpifadjlbjifhaaGreatDoorZF12
set_option linter.unusedSimpArgs false
set_option linter.unnecessarySimpa false
namespace Go.Proofs.YtpifadjlbjifhaaGreatDoor
open Go.ChangeShapes Go.WideShapes Go.ChangeAt Go.RowKit Go.Joins
set_option linter.unusedVariables false
set_option maxRecDepth 100000
/-- The number of a hexadecimal digit's sign. -/
def hexD (k : Int) : Int := if k < 10 then 48 + k else 87 + k
def hexL : List UInt8 → List Int
  | [] => []
  | b :: r => hexD ((b.toNat : Int) / 16) :: hexD ((b.toNat : Int) % 16) :: hexL r
theorem hexL_append (a b : List UInt8) : hexL (a ++ b) = hexL a ++ hexL b := by
  induction a with
  | nil => rfl
  | cons x r ih => simp [hexL, ih]
theorem hexL_len (a : List UInt8) : (hexL a).length = 2 * a.length := by
  induction a with
  | nil => rfl
  | cons x r ih => simp [hexL, ih]; omega
theorem hexD_u8 (k : Int) (h0 : 0 ≤ k) (h : k < 16) : U8 (hexD k) := by
  unfold hexD U8; split <;> omega
theorem hexL_succ (s : ByteArray) (j : Nat) (h : j < s.size) : hexL (s.data.toList.take (j + 1)) = hexL (s.data.toList.take j) ++ [hexD (((s[j]'h).toNat : Int) / 16), hexD (((s[j]'h).toNat : Int) % 16)] := by
  have hl : j < s.data.toList.length := by rw [← Lib.size_eq]; exact h
  rw [take_snoc _ j hl, hexL_append]; rfl
theorem hex_dig (k : Int) (h0 : 0 ≤ k) (h : k < 16) : ∀ hh : k.toNat < (⟨#[48, 49, 50, 51, 52, 53, 54, 55, 56, 57, 97, 98, 99, 100, 101, 102]⟩ : ByteArray).size, ((((⟨#[48, 49, 50, 51, 52, 53, 54, 55, 56, 57, 97, 98, 99, 100, 101, 102]⟩ : ByteArray))[k.toNat]'hh).toNat : Int) = hexD k := by
  obtain rfl | rfl | rfl | rfl | rfl | rfl | rfl | rfl | rfl | rfl | rfl | rfl | rfl | rfl | rfl | rfl : k = 0 ∨ k = 1 ∨ k = 2 ∨ k = 3 ∨ k = 4 ∨ k = 5 ∨ k = 6 ∨ k = 7 ∨ k = 8 ∨ k = 9 ∨ k = 10 ∨ k = 11 ∨ k = 12 ∨ k = 13 ∨ k = 14 ∨ k = 15 := by omega
  all_goals intro hh; rfl
theorem and15 : ∀ X : Fin 256, bits .and .u8 ((X.val : Nat) : Int) 15 = ((X.val : Nat) : Int) % 16 := by decide
/-- A text's bytes in hexadecimal digits. -/
def hexT (s : ByteArray) : ByteArray := strOfNums (hexL s.data.toList)
theorem info_Byte2 : (Tryz.prog.info? 5).map (fun i => (i.zero, i.size, i.bytes)) = some (some (.int .u8 0), 1, 1) := by kernel_rfl
theorem make_cap {P : Program} {t e : TypeId} {z : Value} {size bytes : Nat} {cs : Array Value} (ht : P.underlying t = some (.slice e)) (hinfo : (P.info? e).map (fun i => (i.zero, i.size, i.bytes)) = some (some z, size, bytes)) (hcs : z.cells = cs)
    (n : Nat) (x : Int) (hx : x = n) (h : bytes * n ≤ 281474976710656) (h2 : n ≤ 9223372036854775807) (w : World) :
    (Instr.makeSlice t (.int .i64 0) (.int .i64 x)).run P w = .ok (.slice (some ⟨w.heap.size, 0, none⟩) 0 n) (w.alloc (.cells (madeCells cs (n * size)) e)) := by
  obtain ⟨i, hi, hz0, hz1, hz2⟩ := info_parts hinfo
  subst hz1 hz2 hcs hx
  have := run_make w t e i z ht hi hz0 .i64 .i64 0 (n : Int) (by omega) (by omega) (by rw [← Int.natCast_mul]; omega) (by omega)
  simpa using this
theorem AppL.made {E : World → Nat → Nat → Int → List Nat → Prop} {e : TypeId} (w : World) (rlo n : Nat) (v : Value) (hl : rlo ≤ w.heap.size) (hn : n ≤ maxLen) : AppL E 1 e (w.alloc (.cells (madeCells #[v] (n * 1)) e)) rlo (Option.some ⟨w.heap.size, 0, none⟩) n [] [] :=
  Or.inr ⟨w.heap.size, madeCells #[v] (n * 1), rfl, hl, heap_alloc_new w _, Nat.zero_le _, hn, size_madeCells _ _, rfl, by simp⟩
/-- A row of bytes, as a string. -/
theorem conv_bytes (w : World) (rlo : Nat) (a : Option Addr) (cap : Nat) (l : List Int) (F : List Nat) (h : AppL EByte 1 5 w rlo a cap l F) :
    (convert 22 9 (.slice a l.length cap)).run Tryz.prog w = .ok (.string (strOfNums l)) w := by
  rcases h with ⟨rfl, rfl, rfl, _⟩ | ⟨g, cur, rfl, h1, h3, h4, h5, h6, h7, h8⟩
  · exact run_convert_bytes_nil w 22 5 Tryz.underlying22 Tryz.underlying5 0 0 9 Tryz.underlying9
  · exact run_convert_bytes_arg w 22 5 Tryz.underlying22 Tryz.underlying5 g 0 l.length cap l rfl (fun i hi => by
      obtain ⟨F', hv, _⟩ := h7.get i hi
      have := hv.2.1
      rw [Nat.mul_one] at this
      rw [this, List.getD_eq_getElem?_getD, List.getElem?_eq_getElem hi]; rfl) 9 Tryz.underlying9
set_option maxHeartbeats 4000000 in
theorem spec_HexText (s : ByteArray) (w : World) (hs : s.size ≤ 1048576) :
    Calls Tryz.prog 89 #[.string s] w fun e w' => e = .returned (.string (hexT s)) ∧ Below w.heap.size w w' := by
  have h0 := AppL.empty (E := EByte) (n := 1) (e := 5) w w.heap.size (Nat.le_refl _)
  go_enter Tryz.func89, Tryz.ntmps89
  go_wp2_with fail
  go_loopw [3, 4] (fun q i wr => ∃ (j : Nat) (ar : Option Addr) (cr : Nat), j ≤ s.size ∧ i = .int .i64 j ∧ q = .slice ar (hexL (s.data.toList.take j)).length cr ∧ AppL EByte 1 5 wr w.heap.size ar cr (hexL (s.data.toList.take j)) [] ∧ Below w.heap.size w wr) (fun _ i _ => s.size - (intOf i).toNat)
  case atStart => exact ⟨0, _, _, Nat.zero_le _, rfl, rfl, h0, below1 _ _⟩
  case round =>
    obtain ⟨j, ar, cr, hj, rfl, rfl, happ, hb⟩ := hrel
    have hbs := hb.size
    have HA := Lib.hid happ; clear happ
    by_cases hlt : j < s.size
    · have HLEN := Lib.hid (Lib.size_eq s)
      have hlen : (hexL (s.data.toList.take j)).length = 2 * j := by rw [hexL_len, List.length_take]; have := HLEN.out; omega
      have hx := (s[j]'hlt).toNat_lt
      have hand := and15 ⟨(s[j]'hlt).toNat, hx⟩
      simp only at hand
      have hc1 : 0 ≤ ((s[j]'hlt).toNat : Int) / 16 ∧ ((s[j]'hlt).toNat : Int) / 16 < 16 := by omega
      have hc2 : 0 ≤ ((s[j]'hlt).toNat : Int) % 16 ∧ ((s[j]'hlt).toNat : Int) % 16 < 16 := by omega
      have hv1 := hex_dig _ hc1.1 hc1.2
      have hv2 := hex_dig _ hc2.1 hc2.2
      have HS := Lib.hid (hexL_succ s j hlt)
      have HU1 := Lib.hid (hexD_u8 _ hc1.1 hc1.2)
      have HU2 := Lib.hid (hexD_u8 _ hc2.1 hc2.2)
      go_wp2_with fail
      refine wp_region_held_drew (S := fun w' => (∀ b o, b < w.heap.size → w'.cell? ⟨b, o, none⟩ = wr.cell? ⟨b, o, none⟩) ∧ Below (w.heap.size) wr w') (by kernel_rfl) (by first | exact ⟨fun _ _ _ => rfl, (Below.refl _ _).drew⟩ | exact keep_step (by assumption) (Below.drew (Below.refl _ _)) (Nat.le_refl _) | exact keep_step (by assumption) (by assumption) (by first | omega | (simp only [World.size_drew]; omega) | (simp only [size_alloc]; omega) | (simp only [World.size_drew, size_alloc]; omega) | (have := (‹(_ ∧ Below (w.heap.size) wr _)›).2.size; first | omega | (simp only [World.size_drew]; omega) | (simp only [size_alloc]; omega) | (simp only [World.size_drew, size_alloc]; omega) | (simp only [World.size_drew] at this; omega) | (simp only [size_alloc] at this; omega) | (simp only [World.size_drew, size_alloc] at this; omega)))) (fun hHeld => ?_)
      refine wpAnyH_take (i := 0) (oi := ⟨some 12, _, _, _, _, _⟩) (v := ?_) rfl (by kernel_rfl) (by kernel_rfl) (by kernel_rfl) (fun _ _ _ h => h) (Or.inl ⟨by rfl, ?_⟩) (by assumption) ?_
      rotate_left 1
      · (intro w hSw; (try dsimp only at hSw); go_simp; (try simp only [hand, dif_pos hc1, dif_pos hc2, hv1, hv2]); try (with_reducible rfl))
      try simp only [Act.put, List.setIfInBounds_toArray, List.set_cons_zero, List.set_cons_succ]
      refine wpAnyH_take (i := 1) (oi := ⟨some 13, _, _, _, _, _⟩) (v := ?_) rfl (by kernel_rfl) (by kernel_rfl) (by kernel_rfl) (fun _ _ _ h => h) (Or.inl ⟨by rfl, ?_⟩) (by assumption) ?_
      rotate_left 1
      · (intro w hSw; (try dsimp only at hSw); go_simp; (try simp only [hand, dif_pos hc1, dif_pos hc2, hv1, hv2]); try (with_reducible rfl))
      try simp only [Act.put, List.setIfInBounds_toArray, List.set_cons_zero, List.set_cons_succ]
      refine wpAnyH_take (i := 2) (oi := ⟨some 14, _, _, _, _, _⟩) (v := ?_) rfl (by kernel_rfl) (by kernel_rfl) (by kernel_rfl) (fun _ _ _ h => h) (Or.inl ⟨by rfl, ?_⟩) (by assumption) ?_
      rotate_left 1
      · (intro w hSw; (try dsimp only at hSw); go_simp; (try simp only [hand, dif_pos hc1, dif_pos hc2, hv1, hv2]); try (with_reducible rfl))
      try simp only [Act.put, List.setIfInBounds_toArray, List.set_cons_zero, List.set_cons_succ]
      refine wpAnyH_take (i := 3) (oi := ⟨some 15, _, _, _, _, _⟩) (v := ?_) rfl (by kernel_rfl) (by kernel_rfl) (by kernel_rfl) (fun _ _ _ h => h) (Or.inl ⟨by rfl, ?_⟩) (by assumption) ?_
      rotate_left 1
      · (intro w hSw; (try dsimp only at hSw); go_simp; (try simp only [hand, dif_pos hc1, dif_pos hc2, hv1, hv2]); try (with_reducible rfl))
      try simp only [Act.put, List.setIfInBounds_toArray, List.set_cons_zero, List.set_cons_succ]
      refine wpAnyH_take (i := 4) (oi := ⟨some 16, _, _, _, _, _⟩) (v := ?_) rfl (by kernel_rfl) (by kernel_rfl) (by kernel_rfl) (fun _ _ _ h => h) (Or.inl ⟨by rfl, ?_⟩) (by assumption) ?_
      rotate_left 1
      · (intro w hSw; (try dsimp only at hSw); go_simp; (try simp only [hand, dif_pos hc1, dif_pos hc2, hv1, hv2]); try (with_reducible rfl))
      try simp only [Act.put, List.setIfInBounds_toArray, List.set_cons_zero, List.set_cons_succ]
      refine wpAnyH_take (i := 5) (oi := ⟨some 17, _, _, _, _, _⟩) (v := ?_) rfl (by kernel_rfl) (by kernel_rfl) (by kernel_rfl) (fun _ _ _ h => h) (Or.inl ⟨by rfl, ?_⟩) (by assumption) ?_
      rotate_left 1
      · (intro w hSw; (try dsimp only at hSw); go_simp; (try simp only [hand, dif_pos hc1, dif_pos hc2, hv1, hv2]); try (with_reducible rfl))
      try simp only [Act.put, List.setIfInBounds_toArray, List.set_cons_zero, List.set_cons_succ]
      refine wpAnyH_take (i := 6) (oi := ⟨some 18, _, _, _, _, _⟩) (v := ?_) rfl (by kernel_rfl) (by kernel_rfl) (by kernel_rfl) (fun _ _ _ h => h) (Or.inl ⟨by rfl, ?_⟩) (by assumption) ?_
      rotate_left 1
      · (intro w hSw; (try dsimp only at hSw); go_simp; (try simp only [hand, dif_pos hc1, dif_pos hc2, hv1, hv2]); try (with_reducible rfl))
      try simp only [Act.put, List.setIfInBounds_toArray, List.set_cons_zero, List.set_cons_succ]
      refine wpAnyH_take (i := 7) (oi := ⟨some 19, _, _, _, _, _⟩) (v := ?_) rfl (by kernel_rfl) (by kernel_rfl) (by kernel_rfl) (fun _ _ _ h => h) (Or.inl ⟨by rfl, ?_⟩) (by assumption) ?_
      rotate_left 1
      · (intro w hSw; (try dsimp only at hSw); go_simp; (try simp only [hand, dif_pos hc1, dif_pos hc2, hv1, hv2]); try (with_reducible rfl))
      try simp only [Act.put, List.setIfInBounds_toArray, List.set_cons_zero, List.set_cons_succ]
      refine wpAnyH_take (i := 8) (oi := ⟨some 20, _, _, _, _, _⟩) (v := ?_) rfl (by kernel_rfl) (by kernel_rfl) (by kernel_rfl) (fun _ _ _ h => h) (Or.inl ⟨by rfl, ?_⟩) (by assumption) ?_
      rotate_left 1
      · (intro w hSw; (try dsimp only at hSw); go_simp; (try simp only [hand, dif_pos hc1, dif_pos hc2, hv1, hv2]); try (with_reducible rfl))
      try simp only [Act.put, List.setIfInBounds_toArray, List.set_cons_zero, List.set_cons_succ]
      refine wpAnyH_take (i := 9) (oi := ⟨some 21, _, _, _, _, _⟩) (v := ?_) rfl (by kernel_rfl) (by kernel_rfl) (by kernel_rfl) (fun _ _ _ h => h) (Or.inl ⟨by rfl, ?_⟩) (by assumption) ?_
      rotate_left 1
      · (intro w hSw; (try dsimp only at hSw); go_simp; (try simp only [hand, dif_pos hc1, dif_pos hc2, hv1, hv2]); try (with_reducible rfl))
      try simp only [Act.put, List.setIfInBounds_toArray, List.set_cons_zero, List.set_cons_succ]
      refine wpAnyH_take (i := 10) (oi := ⟨some 22, _, _, _, _, _⟩) (v := ?_) rfl (by kernel_rfl) (by kernel_rfl) (by kernel_rfl) (fun _ _ _ h => h) (Or.inl ⟨by rfl, ?_⟩) (by assumption) ?_
      rotate_left 1
      · (intro w hSw; (try dsimp only at hSw); go_simp; (try simp only [hand, dif_pos hc1, dif_pos hc2, hv1, hv2]); try (with_reducible rfl))
      try simp only [Act.put, List.setIfInBounds_toArray, List.set_cons_zero, List.set_cons_succ]
      refine wpAnyH_ready (rs := [11]) (by kernel_rfl) (by simp) ?_
      refine AllReadyH.cons (o := ⟨some 23, _, _, _, _, _⟩) rfl (fun K hK => ?_) AllReadyH.nil
      go_simp
      go_wp2_with fail
      refine hK.out _ _ (by first | (with_reducible exact keep_step (by assumption) (below1 _ _) (by first | omega | (simp only [World.size_drew]; omega) | (simp only [size_alloc]; omega) | (simp only [World.size_drew, size_alloc]; omega) | (have := (‹(_ ∧ Below (w.heap.size) wr _)›).2.size; first | omega | (simp only [World.size_drew]; omega) | (simp only [size_alloc]; omega) | (simp only [World.size_drew, size_alloc]; omega) | (simp only [World.size_drew] at this; omega) | (simp only [size_alloc] at this; omega) | (simp only [World.size_drew, size_alloc] at this; omega)))) | (exact keep_step (by assumption) (below1 _ _) (by first | omega | (simp only [World.size_drew]; omega) | (simp only [size_alloc]; omega) | (simp only [World.size_drew, size_alloc]; omega) | (have := (‹(_ ∧ Below (w.heap.size) wr _)›).2.size; first | omega | (simp only [World.size_drew]; omega) | (simp only [size_alloc]; omega) | (simp only [World.size_drew, size_alloc]; omega) | (simp only [World.size_drew] at this; omega) | (simp only [size_alloc] at this; omega) | (simp only [World.size_drew, size_alloc] at this; omega))))) (fun hHeld => ?_)
      clear hK K
      try simp only [Act.put, List.setIfInBounds_toArray, List.set_cons_zero, List.set_cons_succ]
      refine wpAnyH_ready (rs := [12]) (by kernel_rfl) (by simp) ?_
      refine AllReadyH.cons (o := ⟨some 24, _, _, _, _, _⟩) rfl (fun K hK => ?_) AllReadyH.nil
      focus (((refine step_appL EByte.elem rfl _ _ 22 rfl (.int .u8 0) 1 Tryz.underlying22 info_Byte2 rfl w.heap.size ar cr (hexL (s.data.toList.take j)) [] (by first | rfl | (rw [hlen]; rfl)) (HA.out.agree EByte.elem (fun f hf => (below1 wr.drew _).block f hf) (by omega)) (by simp; omega) wr.heap.size 0 2 2 [hexD (((s[j]'hlt).toNat : Int) / 16), hexD (((s[j]'hlt).toNat : Int) % 16)] [] rfl rfl ⟨[], [], rfl, ⟨rfl, (Is.new wr.drew #[.int .u8 (hexD (((s[j]'hlt).toNat : Int) / 16)), .int .u8 (hexD (((s[j]'hlt).toNat : Int) % 16))] 5).cell 0 rfl, HU1.out⟩, ⟨[], [], rfl, ⟨rfl, (Is.new wr.drew #[.int .u8 (hexD (((s[j]'hlt).toNat : Int) / 16)), .int .u8 (hexD (((s[j]'hlt).toNat : Int) % 16))] 5).cell 1 rfl, HU2.out⟩, rfl⟩⟩ (by simp) (by omega) (by rw [hlen]; unfold maxLen; omega) (by rw [hlen]; omega) ?_; intro ar2 cr2 w4 happ4 hb4)); refine hK.out _ _ (by first | (with_reducible exact keep_step (by assumption) (by assumption) (by first | omega | (simp only [World.size_drew]; omega) | (simp only [size_alloc]; omega) | (simp only [World.size_drew, size_alloc]; omega) | (have := (‹(_ ∧ Below (w.heap.size) wr _)›).2.size; first | omega | (simp only [World.size_drew]; omega) | (simp only [size_alloc]; omega) | (simp only [World.size_drew, size_alloc]; omega) | (simp only [World.size_drew] at this; omega) | (simp only [size_alloc] at this; omega) | (simp only [World.size_drew, size_alloc] at this; omega)))) | first | exact ⟨fun _ _ _ => rfl, (Below.refl _ _).drew⟩ | exact keep_step (by assumption) (Below.drew (Below.refl _ _)) (Nat.le_refl _) | exact keep_step (by assumption) (by assumption) (by first | omega | (simp only [World.size_drew]; omega) | (simp only [size_alloc]; omega) | (simp only [World.size_drew, size_alloc]; omega) | (have := (‹(_ ∧ Below (w.heap.size) wr _)›).2.size; first | omega | (simp only [World.size_drew]; omega) | (simp only [size_alloc]; omega) | (simp only [World.size_drew, size_alloc]; omega) | (simp only [World.size_drew] at this; omega) | (simp only [size_alloc] at this; omega) | (simp only [World.size_drew, size_alloc] at this; omega)))) (fun hHeld => ?_); clear hK K; try simp only [Act.put, List.setIfInBounds_toArray, List.set_cons_zero, List.set_cons_succ])
      refine wpAnyH_take (i := 13) (oi := ⟨some 3, _, _, _, _, _⟩) (v := ?_) rfl (by kernel_rfl) (by kernel_rfl) (by kernel_rfl) (fun _ _ _ h => h) (Or.inl ⟨by rfl, ?_⟩) (by assumption) ?_
      rotate_left 1
      · (intro w hSw; (try dsimp only at hSw); go_simp; (try simp only [hand, dif_pos hc1, dif_pos hc2, hv1, hv2]); try (with_reducible rfl))
      try simp only [Act.put, List.setIfInBounds_toArray, List.set_cons_zero, List.set_cons_succ]
      refine wpAnyH_done (by kernel_rfl) ?_ _
      have HB4 := Lib.hid (show Below w.heap.size wr _ from (‹_ ∧ Below (w.heap.size) wr _›).2)
      go_wp2_with fail
      go_roundw
      case rel => exact ⟨j + 1, ar2, cr2, by omega, by go_num, by rw [HS.out, List.length_append, hlen]; rfl, by rw [HS.out]; exact happ4, hb.trans HB4.out⟩
      case measure => simp [intOf]; omega
    · have hjj : s.size = j := by omega
      have HJ := Lib.hid (show s.data.toList.take j = s.data.toList from by rw [← hjj, Lib.size_eq, List.take_length]); clear hjj
      have hcv := conv_bytes wr w.heap.size ar cr _ [] HA.out
      rw [HJ.out] at hcv ⊢
      have HH := Lib.hid (show hexT s = strOfNums (hexL s.data.toList) from rfl)
      generalize hexL s.data.toList = L at *
      generalize strOfNums L = O at *
      go_wp2_with fail
      go_ret
      exact ⟨ret_s HH.out.symm, hb⟩
set_option maxHeartbeats 4000000 in
theorem impl_HexText (s : ByteArray) (w : World) (hs : s.size ≤ 1048576) :
    Calls Tryz.prog 83 #[.string s] w fun e w' => e = .returned (.string (hexT s)) ∧ Below w.heap.size w w' := by
  have h0 := AppL.made (E := EByte) (e := 5) w w.heap.size (2 * s.size) (.int .u8 0) (Nat.le_refl _) (by unfold maxLen; omega)
  have hmk := fun w => make_cap (P := Tryz.prog) Tryz.underlying22 info_Byte2 rfl (2 * s.size) (2 * (s.size : Int)) (by omega) (by omega) (by omega) w
  go_enter Tryz.func83, Tryz.ntmps83
  go_wp2_with fail
  clear hmk
  rw [Nat.mul_one] at h0
  go_loopw [3, 11, 4] (fun q i _ wr => ∃ (j : Nat) (ar : Option Addr) (cr : Nat), j ≤ s.size ∧ i = .int .i64 j ∧ q = .slice ar (hexL (s.data.toList.take j)).length cr ∧ AppL EByte 1 5 wr w.heap.size ar cr (hexL (s.data.toList.take j)) [] ∧ Below w.heap.size w wr) (fun _ i _ _ => s.size - (intOf i).toNat)
  case atStart => exact ⟨0, _, _, Nat.zero_le _, rfl, rfl, h0, below1 _ _⟩
  case round =>
    obtain ⟨j, ar, cr, hj, rfl, rfl, happ, hb⟩ := hrel
    have hbs := hb.size
    have HA := Lib.hid happ; clear happ
    by_cases hlt : j < s.size
    · have HLEN := Lib.hid (Lib.size_eq s)
      have hlen : (hexL (s.data.toList.take j)).length = 2 * j := by rw [hexL_len, List.length_take]; have := HLEN.out; omega
      have hx := (s[j]'hlt).toNat_lt
      have hand := and15 ⟨(s[j]'hlt).toNat, hx⟩
      simp only at hand
      have hc1 : 0 ≤ ((s[j]'hlt).toNat : Int) / 16 ∧ ((s[j]'hlt).toNat : Int) / 16 < 16 := by omega
      have hc2 : 0 ≤ ((s[j]'hlt).toNat : Int) % 16 ∧ ((s[j]'hlt).toNat : Int) % 16 < 16 := by omega
      have hv1 := hex_dig _ hc1.1 hc1.2
      have hv2 := hex_dig _ hc2.1 hc2.2
      have HS := Lib.hid (hexL_succ s j hlt)
      have HU1 := Lib.hid (hexD_u8 _ hc1.1 hc1.2)
      have HU2 := Lib.hid (hexD_u8 _ hc2.1 hc2.2)
      go_wp2_with fail
      refine wp_region_held_drew (S := fun w' => (∀ b o, b < w.heap.size → w'.cell? ⟨b, o, none⟩ = wr.cell? ⟨b, o, none⟩) ∧ Below (w.heap.size) wr w') (by kernel_rfl) (by first | exact ⟨fun _ _ _ => rfl, (Below.refl _ _).drew⟩ | exact keep_step (by assumption) (Below.drew (Below.refl _ _)) (Nat.le_refl _) | exact keep_step (by assumption) (by assumption) (by first | omega | (simp only [World.size_drew]; omega) | (simp only [size_alloc]; omega) | (simp only [World.size_drew, size_alloc]; omega) | (have := (‹(_ ∧ Below (w.heap.size) wr _)›).2.size; first | omega | (simp only [World.size_drew]; omega) | (simp only [size_alloc]; omega) | (simp only [World.size_drew, size_alloc]; omega) | (simp only [World.size_drew] at this; omega) | (simp only [size_alloc] at this; omega) | (simp only [World.size_drew, size_alloc] at this; omega)))) (fun hHeld => ?_)
      refine wpAnyH_take (i := 0) (oi := ⟨some 14, _, _, _, _, _⟩) (v := ?_) rfl (by kernel_rfl) (by kernel_rfl) (by kernel_rfl) (fun _ _ _ h => h) (Or.inl ⟨by rfl, ?_⟩) (by assumption) ?_
      rotate_left 1
      · (intro w hSw; (try dsimp only at hSw); go_simp; (try simp only [hand, dif_pos hc1, dif_pos hc2, hv1, hv2]); try (with_reducible rfl))
      try simp only [Act.put, List.setIfInBounds_toArray, List.set_cons_zero, List.set_cons_succ]
      refine wpAnyH_take (i := 1) (oi := ⟨some 15, _, _, _, _, _⟩) (v := ?_) rfl (by kernel_rfl) (by kernel_rfl) (by kernel_rfl) (fun _ _ _ h => h) (Or.inl ⟨by rfl, ?_⟩) (by assumption) ?_
      rotate_left 1
      · (intro w hSw; (try dsimp only at hSw); go_simp; (try simp only [hand, dif_pos hc1, dif_pos hc2, hv1, hv2]); try (with_reducible rfl))
      try simp only [Act.put, List.setIfInBounds_toArray, List.set_cons_zero, List.set_cons_succ]
      refine wpAnyH_take (i := 2) (oi := ⟨some 16, _, _, _, _, _⟩) (v := ?_) rfl (by kernel_rfl) (by kernel_rfl) (by kernel_rfl) (fun _ _ _ h => h) (Or.inl ⟨by rfl, ?_⟩) (by assumption) ?_
      rotate_left 1
      · (intro w hSw; (try dsimp only at hSw); go_simp; (try simp only [hand, dif_pos hc1, dif_pos hc2, hv1, hv2]); try (with_reducible rfl))
      try simp only [Act.put, List.setIfInBounds_toArray, List.set_cons_zero, List.set_cons_succ]
      refine wpAnyH_take (i := 3) (oi := ⟨some 17, _, _, _, _, _⟩) (v := ?_) rfl (by kernel_rfl) (by kernel_rfl) (by kernel_rfl) (fun _ _ _ h => h) (Or.inl ⟨by rfl, ?_⟩) (by assumption) ?_
      rotate_left 1
      · (intro w hSw; (try dsimp only at hSw); go_simp; (try simp only [hand, dif_pos hc1, dif_pos hc2, hv1, hv2]); try (with_reducible rfl))
      try simp only [Act.put, List.setIfInBounds_toArray, List.set_cons_zero, List.set_cons_succ]
      refine wpAnyH_take (i := 4) (oi := ⟨some 18, _, _, _, _, _⟩) (v := ?_) rfl (by kernel_rfl) (by kernel_rfl) (by kernel_rfl) (fun _ _ _ h => h) (Or.inl ⟨by rfl, ?_⟩) (by assumption) ?_
      rotate_left 1
      · (intro w hSw; (try dsimp only at hSw); go_simp; (try simp only [hand, dif_pos hc1, dif_pos hc2, hv1, hv2]); try (with_reducible rfl))
      try simp only [Act.put, List.setIfInBounds_toArray, List.set_cons_zero, List.set_cons_succ]
      refine wpAnyH_take (i := 5) (oi := ⟨some 19, _, _, _, _, _⟩) (v := ?_) rfl (by kernel_rfl) (by kernel_rfl) (by kernel_rfl) (fun _ _ _ h => h) (Or.inl ⟨by rfl, ?_⟩) (by assumption) ?_
      rotate_left 1
      · (intro w hSw; (try dsimp only at hSw); go_simp; (try simp only [hand, dif_pos hc1, dif_pos hc2, hv1, hv2]); try (with_reducible rfl))
      try simp only [Act.put, List.setIfInBounds_toArray, List.set_cons_zero, List.set_cons_succ]
      refine wpAnyH_take (i := 6) (oi := ⟨some 20, _, _, _, _, _⟩) (v := ?_) rfl (by kernel_rfl) (by kernel_rfl) (by kernel_rfl) (fun _ _ _ h => h) (Or.inl ⟨by rfl, ?_⟩) (by assumption) ?_
      rotate_left 1
      · (intro w hSw; (try dsimp only at hSw); go_simp; (try simp only [hand, dif_pos hc1, dif_pos hc2, hv1, hv2]); try (with_reducible rfl))
      try simp only [Act.put, List.setIfInBounds_toArray, List.set_cons_zero, List.set_cons_succ]
      refine wpAnyH_take (i := 7) (oi := ⟨some 21, _, _, _, _, _⟩) (v := ?_) rfl (by kernel_rfl) (by kernel_rfl) (by kernel_rfl) (fun _ _ _ h => h) (Or.inl ⟨by rfl, ?_⟩) (by assumption) ?_
      rotate_left 1
      · (intro w hSw; (try dsimp only at hSw); go_simp; (try simp only [hand, dif_pos hc1, dif_pos hc2, hv1, hv2]); try (with_reducible rfl))
      try simp only [Act.put, List.setIfInBounds_toArray, List.set_cons_zero, List.set_cons_succ]
      refine wpAnyH_take (i := 8) (oi := ⟨some 22, _, _, _, _, _⟩) (v := ?_) rfl (by kernel_rfl) (by kernel_rfl) (by kernel_rfl) (fun _ _ _ h => h) (Or.inl ⟨by rfl, ?_⟩) (by assumption) ?_
      rotate_left 1
      · (intro w hSw; (try dsimp only at hSw); go_simp; (try simp only [hand, dif_pos hc1, dif_pos hc2, hv1, hv2]); try (with_reducible rfl))
      try simp only [Act.put, List.setIfInBounds_toArray, List.set_cons_zero, List.set_cons_succ]
      refine wpAnyH_take (i := 9) (oi := ⟨some 23, _, _, _, _, _⟩) (v := ?_) rfl (by kernel_rfl) (by kernel_rfl) (by kernel_rfl) (fun _ _ _ h => h) (Or.inl ⟨by rfl, ?_⟩) (by assumption) ?_
      rotate_left 1
      · (intro w hSw; (try dsimp only at hSw); go_simp; (try simp only [hand, dif_pos hc1, dif_pos hc2, hv1, hv2]); try (with_reducible rfl))
      try simp only [Act.put, List.setIfInBounds_toArray, List.set_cons_zero, List.set_cons_succ]
      refine wpAnyH_take (i := 10) (oi := ⟨some 24, _, _, _, _, _⟩) (v := ?_) rfl (by kernel_rfl) (by kernel_rfl) (by kernel_rfl) (fun _ _ _ h => h) (Or.inl ⟨by rfl, ?_⟩) (by assumption) ?_
      rotate_left 1
      · (intro w hSw; (try dsimp only at hSw); go_simp; (try simp only [hand, dif_pos hc1, dif_pos hc2, hv1, hv2]); try (with_reducible rfl))
      try simp only [Act.put, List.setIfInBounds_toArray, List.set_cons_zero, List.set_cons_succ]
      refine wpAnyH_ready (rs := [11]) (by kernel_rfl) (by simp) ?_
      refine AllReadyH.cons (o := ⟨some 25, _, _, _, _, _⟩) rfl (fun K hK => ?_) AllReadyH.nil
      go_simp
      go_wp2_with fail
      refine hK.out _ _ (by first | (with_reducible exact keep_step (by assumption) (below1 _ _) (by first | omega | (simp only [World.size_drew]; omega) | (simp only [size_alloc]; omega) | (simp only [World.size_drew, size_alloc]; omega) | (have := (‹(_ ∧ Below (w.heap.size) wr _)›).2.size; first | omega | (simp only [World.size_drew]; omega) | (simp only [size_alloc]; omega) | (simp only [World.size_drew, size_alloc]; omega) | (simp only [World.size_drew] at this; omega) | (simp only [size_alloc] at this; omega) | (simp only [World.size_drew, size_alloc] at this; omega)))) | (exact keep_step (by assumption) (below1 _ _) (by first | omega | (simp only [World.size_drew]; omega) | (simp only [size_alloc]; omega) | (simp only [World.size_drew, size_alloc]; omega) | (have := (‹(_ ∧ Below (w.heap.size) wr _)›).2.size; first | omega | (simp only [World.size_drew]; omega) | (simp only [size_alloc]; omega) | (simp only [World.size_drew, size_alloc]; omega) | (simp only [World.size_drew] at this; omega) | (simp only [size_alloc] at this; omega) | (simp only [World.size_drew, size_alloc] at this; omega))))) (fun hHeld => ?_)
      clear hK K
      try simp only [Act.put, List.setIfInBounds_toArray, List.set_cons_zero, List.set_cons_succ]
      refine wpAnyH_ready (rs := [12]) (by kernel_rfl) (by simp) ?_
      refine AllReadyH.cons (o := ⟨some 26, _, _, _, _, _⟩) rfl (fun K hK => ?_) AllReadyH.nil
      focus (((refine step_appL EByte.elem rfl _ _ 22 rfl (.int .u8 0) 1 Tryz.underlying22 info_Byte2 rfl w.heap.size ar cr (hexL (s.data.toList.take j)) [] (by first | rfl | (rw [hlen]; rfl)) (HA.out.agree EByte.elem (fun f hf => (below1 wr.drew _).block f hf) (by omega)) (by simp; omega) wr.heap.size 0 2 2 [hexD (((s[j]'hlt).toNat : Int) / 16), hexD (((s[j]'hlt).toNat : Int) % 16)] [] rfl rfl ⟨[], [], rfl, ⟨rfl, (Is.new wr.drew #[.int .u8 (hexD (((s[j]'hlt).toNat : Int) / 16)), .int .u8 (hexD (((s[j]'hlt).toNat : Int) % 16))] 5).cell 0 rfl, HU1.out⟩, ⟨[], [], rfl, ⟨rfl, (Is.new wr.drew #[.int .u8 (hexD (((s[j]'hlt).toNat : Int) / 16)), .int .u8 (hexD (((s[j]'hlt).toNat : Int) % 16))] 5).cell 1 rfl, HU2.out⟩, rfl⟩⟩ (by simp) (by omega) (by rw [hlen]; unfold maxLen; omega) (by rw [hlen]; omega) ?_; intro ar2 cr2 w4 happ4 hb4)); refine hK.out _ _ (by first | (with_reducible exact keep_step (by assumption) (by assumption) (by first | omega | (simp only [World.size_drew]; omega) | (simp only [size_alloc]; omega) | (simp only [World.size_drew, size_alloc]; omega) | (have := (‹(_ ∧ Below (w.heap.size) wr _)›).2.size; first | omega | (simp only [World.size_drew]; omega) | (simp only [size_alloc]; omega) | (simp only [World.size_drew, size_alloc]; omega) | (simp only [World.size_drew] at this; omega) | (simp only [size_alloc] at this; omega) | (simp only [World.size_drew, size_alloc] at this; omega)))) | first | exact ⟨fun _ _ _ => rfl, (Below.refl _ _).drew⟩ | exact keep_step (by assumption) (Below.drew (Below.refl _ _)) (Nat.le_refl _) | exact keep_step (by assumption) (by assumption) (by first | omega | (simp only [World.size_drew]; omega) | (simp only [size_alloc]; omega) | (simp only [World.size_drew, size_alloc]; omega) | (have := (‹(_ ∧ Below (w.heap.size) wr _)›).2.size; first | omega | (simp only [World.size_drew]; omega) | (simp only [size_alloc]; omega) | (simp only [World.size_drew, size_alloc]; omega) | (simp only [World.size_drew] at this; omega) | (simp only [size_alloc] at this; omega) | (simp only [World.size_drew, size_alloc] at this; omega)))) (fun hHeld => ?_); clear hK K; try simp only [Act.put, List.setIfInBounds_toArray, List.set_cons_zero, List.set_cons_succ])
      refine wpAnyH_take (i := 13) (oi := ⟨some 3, _, _, _, _, _⟩) (v := ?_) rfl (by kernel_rfl) (by kernel_rfl) (by kernel_rfl) (fun _ _ _ h => h) (Or.inl ⟨by rfl, ?_⟩) (by assumption) ?_
      rotate_left 1
      · (intro w hSw; (try dsimp only at hSw); go_simp; (try simp only [hand, dif_pos hc1, dif_pos hc2, hv1, hv2]); try (with_reducible rfl))
      try simp only [Act.put, List.setIfInBounds_toArray, List.set_cons_zero, List.set_cons_succ]
      refine wpAnyH_done (by kernel_rfl) ?_ _
      have HB4 := Lib.hid (show Below w.heap.size wr _ from (‹_ ∧ Below (w.heap.size) wr _›).2)
      go_wp2_with fail
      go_roundw
      case rel => exact ⟨j + 1, ar2, cr2, by omega, by go_num, by rw [HS.out, List.length_append, hlen]; rfl, by rw [HS.out]; exact happ4, hb.trans HB4.out⟩
      case measure => simp [intOf]; omega
    · have hjj : s.size = j := by omega
      have HJ := Lib.hid (show s.data.toList.take j = s.data.toList from by rw [← hjj, Lib.size_eq, List.take_length]); clear hjj
      have hcv := conv_bytes wr w.heap.size ar cr _ [] HA.out
      rw [HJ.out] at hcv ⊢
      have HH := Lib.hid (show hexT s = strOfNums (hexL s.data.toList) from rfl)
      generalize hexL s.data.toList = L at *
      generalize strOfNums L = O at *
      go_wp2_with fail
      go_ret
      exact ⟨ret_s HH.out.symm, hb⟩
end Go.Proofs.YtpifadjlbjifhaaGreatDoor
namespace Go.Proofs.YtpifadjlbjifhaaGreatDoor
open Go.ChangeShapes Go.WideShapes Go.ChangeAt Go.RowKit Go.Joins
set_option linter.unusedVariables false
set_option maxRecDepth 100000
/-- Is a decimal number a floating-point number? -/
def exactD (n x : Int) : Bool := (nearD n x).2 && decide (fltDecD (nearD n x).1.1 (nearD n x).1.2 = (n, x))
/-- An integer or a decimal number. -/
def numV (d : Int × Int) : T := if d.2 = 0 then .mk 3 d.1 0 ⟨#[]⟩ [] else .mk 6 d.1 d.2 ⟨#[]⟩ []
/-- A number by halves, and what is lost. -/
def nearW (n x : Int) : T × Int := if (nearD n x).2 = true then (.mk 4 (nearD n x).1.1 (nearD n x).1.2 ⟨#[]⟩ [], if exactD n x = true then 1 else 2) else (.mk 1 0 0 ⟨#[]⟩ [], 3)
/-- The leaf of a format, and what is lost. -/
def leafW (way k n x : Int) (s : ByteArray) (l : List T) : T × Int :=
  if (k = 3 ∧ way = 4) ∨ (k = 6 ∧ 2 ≤ way ∧ way ≤ 4) then
    nearW n x
  else if k = 4 ∧ way = 1 then (numV (fltDecD n x), 1)
  else if k = 5 ∧ (way = 1 ∨ way = 4) then (.mk 1 0 0 ⟨#[]⟩ [], 4)
  else if k = 8 ∧ (way = 1 ∨ way = 4) then (.mk 7 0 0 (hexT s) [], 5)
  else (.mk k n x s l, 0)
def lT (way : Int) (t : T) : T := (leafW way t.k t.n t.x t.s t.l).1
def lN (way : Int) (t : T) : Int := (leafW way t.k t.n t.x t.s t.l).2
theorem numV_wf (d : Int × Int) (h1 : I64 d.1) (h2 : I64 d.2) : Wf (numV d) := by
  unfold numV
  split
  · exact ⟨⟨by simp [T.k], by simp [T.k]⟩, h1, ⟨by simp [T.x], by simp [T.x]⟩, by simp [T.s, ByteArray.size, maxLen]⟩
  · exact ⟨⟨by simp [T.k], by simp [T.k]⟩, h1, h2, by simp [T.s, ByteArray.size, maxLen]⟩
theorem numV_l (d : Int × Int) : (numV d).l = [] := by unfold numV; split <;> rfl
theorem hexT_size (s : ByteArray) : (hexT s).size = 2 * s.size := by
  unfold hexT
  rw [strOfNums_size, hexL_len, ← Lib.size_eq]
theorem lT_wf (way : Int) {t : T} (h : Wf t) (hs : t.s.size ≤ 1048576) : Wf (lT way t) := by
  obtain ⟨k, n, x, s, l⟩ := t
  show Wf (leafW way k n x s l).1
  replace hs : s.size ≤ 1048576 := hs
  have hb := nearD_box n x
  have hf := fltDecD_box n x
  have h1 : Wf (.mk 1 0 0 ⟨#[]⟩ []) := ⟨⟨by simp [T.k], by simp [T.k]⟩, ⟨by simp [T.n], by simp [T.n]⟩, ⟨by simp [T.x], by simp [T.x]⟩, by simp [T.s, ByteArray.size, maxLen]⟩
  unfold leafW
  split
  · unfold nearW
    split
    · exact ⟨⟨by simp [T.k], by simp [T.k]⟩, ⟨by simp only [T.n]; omega, by simp only [T.n]; omega⟩, ⟨by simp only [T.x]; omega, by simp only [T.x]; omega⟩, by simp [T.s, ByteArray.size, maxLen]⟩
    · exact h1
  · split
    · exact numV_wf _ hf.1 ⟨by omega, by omega⟩
    · split
      · exact h1
      · split
        · exact ⟨⟨by simp [T.k], by simp [T.k]⟩, ⟨by simp [T.n], by simp [T.n]⟩, ⟨by simp [T.x], by simp [T.x]⟩, by simp only [T.s, hexT_size]; unfold maxLen; omega⟩
        · exact h
theorem nearW_l (n x : Int) : (nearW n x).1.l = [] := by unfold nearW; split <;> rfl
theorem lT_l (way : Int) (t : T) : (lT way t).l = [] ∨ (lT way t).l = t.l := by
  obtain ⟨k, n, x, s, l⟩ := t
  show (leafW way k n x s l).1.l = [] ∨ (leafW way k n x s l).1.l = l
  unfold leafW
  split
  · exact Or.inl (nearW_l n x)
  · split
    · exact Or.inl (numV_l _)
    · split
      · exact Or.inl rfl
      · split
        · exact Or.inl rfl
        · exact Or.inr rfl
theorem lcountL_le_sz (t : T) : T.countL t.l ≤ T.sz t := by
  have h2 := T.countL_le_szL t
  have h3 : T.count t = T.countL t.l + 1 := by cases t; simp only [T.count, T.l]
  omega
theorem lT_sz (way : Int) (t : T) : T.countL (lT way t).l ≤ T.sz t := by
  rcases lT_l way t with h | h
  · rw [h]; simp [T.countL]
  · rw [h]; exact lcountL_le_sz t
theorem lsz_string (t : T) : t.s.size ≤ T.sz t := by cases t; simp only [T.s, T.sz]; omega
end Go.Proofs.YtpifadjlbjifhaaGreatDoor
namespace Go.Proofs.YtpifadjlbjifhaaGreatDoor
open Go.ChangeShapes Go.WideShapes Go.ChangeAt Go.RowKit Go.Joins
set_option linter.unusedVariables false
set_option maxRecDepth 100000
theorem spec_IntVal (n : Int) (w : World) :
    Calls Tryz.prog 124 #[.int .i64 n] w fun e w' => e = .returned (.agg #[.int .i64 3, .int .i64 n, .int .i64 0, .string ⟨#[]⟩, .slice none 0 0]) ∧ Below w.heap.size w w' := by
  go_enter Tryz.func124, Tryz.ntmps124
  go_wp2_with fail
  have q2 := Is.new w #[Value.int IntKind.i64 3, Value.int IntKind.i64 n, Value.int IntKind.i64 0, Value.string ⟨#[]⟩, Value.slice none 0 0] 36
  obtain ⟨e0, e1, e2, e3, e4⟩ := q2.cells5
  refine bodyPost_ret (v := .agg #[.int .i64 3, .int .i64 n, .int .i64 0, .string ⟨#[]⟩, .slice none 0 0]) (by simp [results, Tryz.results124, go_sem, e0, e1, e2, e3, e4]) rfl ⟨rfl, below1 _ _⟩
theorem impl_IntVal (n : Int) (w : World) :
    Calls Tryz.prog 117 #[.int .i64 n] w fun e w' => e = .returned (.agg #[.int .i64 3, .int .i64 n, .int .i64 0, .string ⟨#[]⟩, .slice none 0 0]) ∧ Below w.heap.size w w' := by
  go_enter Tryz.func117, Tryz.ntmps117
  go_wp2_with fail
  have q2 := Is.new w #[Value.int IntKind.i64 3, Value.int IntKind.i64 n, Value.int IntKind.i64 0, Value.string ⟨#[]⟩, Value.slice none 0 0] 36
  obtain ⟨e0, e1, e2, e3, e4⟩ := q2.cells5
  refine bodyPost_ret (v := .agg #[.int .i64 3, .int .i64 n, .int .i64 0, .string ⟨#[]⟩, .slice none 0 0]) (by simp [results, Tryz.results117, go_sem, e0, e1, e2, e3, e4]) rfl ⟨rfl, below1 _ _⟩
theorem spec_TextVal (s : ByteArray) (w : World) :
    Calls Tryz.prog 88 #[.string s] w fun e w' => e = .returned (.agg #[.int .i64 7, .int .i64 0, .int .i64 0, .string s, .slice none 0 0]) ∧ Below w.heap.size w w' := by
  go_enter Tryz.func88, Tryz.ntmps88
  go_wp2_with fail
  have q2 := Is.new w #[Value.int IntKind.i64 7, Value.int IntKind.i64 0, Value.int IntKind.i64 0, Value.string s, Value.slice none 0 0] 36
  obtain ⟨e0, e1, e2, e3, e4⟩ := q2.cells5
  refine bodyPost_ret (v := .agg #[.int .i64 7, .int .i64 0, .int .i64 0, .string s, .slice none 0 0]) (by simp [results, Tryz.results88, go_sem, e0, e1, e2, e3, e4]) rfl ⟨rfl, below1 _ _⟩
theorem impl_TextVal (s : ByteArray) (w : World) :
    Calls Tryz.prog 82 #[.string s] w fun e w' => e = .returned (.agg #[.int .i64 7, .int .i64 0, .int .i64 0, .string s, .slice none 0 0]) ∧ Below w.heap.size w w' := by
  go_enter Tryz.func82, Tryz.ntmps82
  go_wp2_with fail
  have q2 := Is.new w #[Value.int IntKind.i64 7, Value.int IntKind.i64 0, Value.int IntKind.i64 0, Value.string s, Value.slice none 0 0] 36
  obtain ⟨e0, e1, e2, e3, e4⟩ := q2.cells5
  refine bodyPost_ret (v := .agg #[.int .i64 7, .int .i64 0, .int .i64 0, .string s, .slice none 0 0]) (by simp [results, Tryz.results82, go_sem, e0, e1, e2, e3, e4]) rfl ⟨rfl, below1 _ _⟩
set_option maxHeartbeats 1000000 in
theorem spec_NumberVal (n x : Int) (w : World) :
    Calls Tryz.prog 86 #[.agg (cF n x)] w fun e w' => e = .returned (.agg (cV (numV (n, x)) none 0)) ∧ Below w.heap.size w w' := by
  by_cases h : x = 0
  · subst h
    rw [show numV (n, 0) = .mk 3 n 0 ⟨#[]⟩ [] from rfl]
    go_enter Tryz.func86, Tryz.ntmps86
    go_wp2_with fail
    generalize hW : (w.alloc (Obj.cells (cF n 0) 91)).alloc (Obj.cells zV 36) = W0
    have q2 : Is W0 (w.heap.size + 1) 36 zV := by subst hW; exact Is.new2 _ _ _ _
    have H0 := Lib.hid (show Below w.heap.size w W0 from by subst hW; exact below2 _ _ _)
    have hs0 : W0.heap.size = w.heap.size + 2 := by subst hW; simp
    clear hW
    refine (spec_IntVal n W0).mono ?_
    rintro ee w2 ⟨rfl, hb⟩
    have p2 := q2.below hb (by omega)
    have HB := Lib.hid (H0.out.trans (hb.mono (by omega)))
    have hl1 : w.heap.size + 1 < w2.heap.size := by have := hb.size; omega
    have ff := fun i => p2.frozen i
    obtain ⟨o0, o1, o2, o3, o4⟩ := p2.cells5
    clear hb
    try dsimp only
    repeat (first | go_values | go_skip | go_guarded | go_step | go_upon)
    obtain ⟨e0, e1, e2, e3, e4, hbel, hold, hsz⟩ := out5 p2.blk (.int .i64 3) (.int .i64 n) (.int .i64 0) (.string ⟨#[]⟩) (.slice none 0 0) w.heap.size (by omega)
    refine bodyPost_ret (v := .agg #[.int .i64 3, .int .i64 n, .int .i64 0, .string ⟨#[]⟩, .slice none 0 0]) (by simp [results, Tryz.results86, go_sem, e0, e1, e2, e3, e4]) rfl ⟨rfl, HB.out.trans hbel⟩
  · have hb : (x == 0) = false := by simpa using h
    rw [show numV (n, x) = .mk 6 n x ⟨#[]⟩ [] from if_neg h]
    go_enter Tryz.func86, Tryz.ntmps86
    go_wp2_with fail
    have q2 : Is ((w.alloc (Obj.cells (cF n x) 91)).alloc (Obj.cells #[Value.int IntKind.i64 6, Value.int IntKind.i64 n, Value.int IntKind.i64 x, Value.string ⟨#[]⟩, Value.slice none 0 0] 36)) (w.heap.size + 1) 36 _ := Is.new2 _ _ _ _
    obtain ⟨e0, e1, e2, e3, e4⟩ := q2.cells5
    refine bodyPost_ret (v := .agg #[.int .i64 6, .int .i64 n, .int .i64 x, .string ⟨#[]⟩, .slice none 0 0]) (by simp [results, Tryz.results86, go_sem, e0, e1, e2, e3, e4]) rfl ⟨rfl, below2 _ _ _⟩
set_option maxHeartbeats 1000000 in
theorem impl_NumberVal (n x : Int) (w : World) :
    Calls Tryz.prog 80 #[.agg (cF n x)] w fun e w' => e = .returned (.agg (cV (numV (n, x)) none 0)) ∧ Below w.heap.size w w' := by
  by_cases h : x = 0
  · subst h
    rw [show numV (n, 0) = .mk 3 n 0 ⟨#[]⟩ [] from rfl]
    go_enter Tryz.func80, Tryz.ntmps80
    go_wp2_with fail
    generalize hW : (w.alloc (Obj.cells (cF n 0) 91)).alloc (Obj.cells zV 36) = W0
    have q2 : Is W0 (w.heap.size + 1) 36 zV := by subst hW; exact Is.new2 _ _ _ _
    have H0 := Lib.hid (show Below w.heap.size w W0 from by subst hW; exact below2 _ _ _)
    have hs0 : W0.heap.size = w.heap.size + 2 := by subst hW; simp
    clear hW
    refine (impl_IntVal n W0).mono ?_
    rintro ee w2 ⟨rfl, hb⟩
    have p2 := q2.below hb (by omega)
    have HB := Lib.hid (H0.out.trans (hb.mono (by omega)))
    have hl1 : w.heap.size + 1 < w2.heap.size := by have := hb.size; omega
    have ff := fun i => p2.frozen i
    obtain ⟨o0, o1, o2, o3, o4⟩ := p2.cells5
    clear hb
    try dsimp only
    repeat (first | go_values | go_skip | go_guarded | go_step | go_upon)
    obtain ⟨e0, e1, e2, e3, e4, hbel, hold, hsz⟩ := out5 p2.blk (.int .i64 3) (.int .i64 n) (.int .i64 0) (.string ⟨#[]⟩) (.slice none 0 0) w.heap.size (by omega)
    refine bodyPost_ret (v := .agg #[.int .i64 3, .int .i64 n, .int .i64 0, .string ⟨#[]⟩, .slice none 0 0]) (by simp [results, Tryz.results80, go_sem, e0, e1, e2, e3, e4]) rfl ⟨rfl, HB.out.trans hbel⟩
  · have hb : (x == 0) = false := by simpa using h
    rw [show numV (n, x) = .mk 6 n x ⟨#[]⟩ [] from if_neg h]
    go_enter Tryz.func80, Tryz.ntmps80
    go_wp2_with fail
    have q2 : Is ((w.alloc (Obj.cells (cF n x) 91)).alloc (Obj.cells #[Value.int IntKind.i64 6, Value.int IntKind.i64 n, Value.int IntKind.i64 x, Value.string ⟨#[]⟩, Value.slice none 0 0] 36)) (w.heap.size + 1) 36 _ := Is.new2 _ _ _ _
    obtain ⟨e0, e1, e2, e3, e4⟩ := q2.cells5
    refine bodyPost_ret (v := .agg #[.int .i64 6, .int .i64 n, .int .i64 x, .string ⟨#[]⟩, .slice none 0 0]) (by simp [results, Tryz.results80, go_sem, e0, e1, e2, e3, e4]) rfl ⟨rfl, below2 _ _ _⟩
theorem spec_TextNames (way : Int) (w : World) :
    Calls Tryz.prog 47 #[.int .i64 way] w fun e w' => e = .returned (.bool (decide (way = 1 ∨ way = 4))) ∧ w' = w := by
  by_cases h1 : way = 1
  · subst h1
    go_enter Tryz.func47, Tryz.ntmps47
    go_wp2_with fail
    go_ret
    exact ⟨by simp, rfl⟩
  · have hb : (way == 1) = false := by simpa using h1
    by_cases h4 : way = 4
    · subst h4
      go_enter Tryz.func47, Tryz.ntmps47
      go_wp2_with fail
      go_ret
      exact ⟨by simp, rfl⟩
    · have hb4 : (way == 4) = false := by simpa using h4
      go_enter Tryz.func47, Tryz.ntmps47
      go_wp2_with fail
      go_ret
      exact ⟨by simp [h1, h4], rfl⟩
end Go.Proofs.YtpifadjlbjifhaaGreatDoor
