/- Texts of this proof, merged: AppX, HexT, Big1, Big2. No condition beyond what each theorem states. -/
import Derived.Test.YtggdenkmohnijaaGreatDoorZO7
import Derived.Laws.Bits64
import Derived.Laws.Bits64b
import Derived.Deep.CutBlock
set_option linter.unusedSimpArgs false
set_option linter.unnecessarySimpa false
namespace Go.Proofs.YtggdenkmohnijaaGreatDoor
open Go.ChangeShapes Go.WideShapes Go.ChangeAt Go.RowKit Go.Joins
set_option linter.unusedVariables false
set_option maxRecDepth 100000
section
variable {α : Type} {E : World → Nat → Nat → α → List Nat → Prop} {n : Nat} {e : TypeId}
theorem wpList_appX {P : Program} {w : World} (hE : Elem E n) {ops : Array Oper} {rest : List Oper} {o : Oper} {act : Act} {Q : Exit → Act → World → Prop} (hgd : o.guard = none) (s x : Operand) (t : TypeId)
  (ho : o.op = .call { callee := .builtin .append, args := #[s, x], argTypes := #[t, t] }) (z : Value) (bytes : Nat) (ht : P.underlying t = some (.slice e)) (hinfo : (P.info? e).map (fun i => (i.zero, i.size, i.bytes)) = some (some z, n, bytes)) (hzs : z.cells.size = n)
  (rlo : Nat) (a : Option Addr) (cap : Nat) (l : List α) (F : List Nat) (hs : act.eval s = .slice a l.length cap) (happ : AppL E n e w rlo a cap l F) (hlo : rlo ≤ w.heap.size)
  (b off m c : Nat) (ys : List α) (G : List Nat) (hx : act.eval x = .slice (some ⟨b, off, none⟩) m c) (hm : ys.length = m) (hys : Row E n w b off ys G) (hG : ∀ f ∈ G, f < rlo)
  (hpos : 0 < m) (h63 : l.length + m ≤ maxLen) (hbytes : (l.length + m) * bytes ≤ 140737488355328)
  (h : ∀ a' cap' w', AppL E n e w' rlo a' cap' (l ++ ys) (F ++ G) → Below rlo w w' → (∀ f, f < w.heap.size → (∀ k, (Value.slice a l.length cap).ownBlock = some k → f ≠ k) → w'.heap[f]? = w.heap[f]?) → (∀ k, (Value.slice a' (l ++ ys).length cap').ownBlock = some k → (Value.slice a l.length cap).ownBlock = some k ∨ k = w.heap.size) → w.heap.size ≤ w'.heap.size → wpList P ops Q rest (act.put o.dst (.slice a' (l ++ ys).length cap')) w') : wpList P ops Q (o :: rest) act w := by
 obtain ⟨i, hi', hz0, hz1, hz2⟩ := info_parts hinfo
 obtain ⟨xs, q1, q2, q3⟩ := happ.owns
 subst hm
 obtain ⟨news, n1, n2, n3⟩ := cells_list (hys.cel hE ys)
 refine wpList_append_lies w hgd s x t ho rlo e i z n bytes ht hi' hz0 hz1 hz2 hzs hE.pos (.slice a l.length cap) l.length xs hs q1 ⟨b, off, none⟩ ys.length c news hx n1 (fun j u hj => ?_) n3 hpos h63 hbytes hlo w.heap.size rfl (fun g' cap' w' hown hgr hat hlt => ?_)
 ·have hj2 : j < ys.length * n := by
   rcases Nat.lt_or_ge j (ys.length * n) with h | h
   ·exact h
   ·rw [List.getElem?_eq_none (by omega)] at hj; cases hj
  rw [← hj, ← n2 j hj2, Addr.add_lit]
 ·obtain ⟨r1, r2⟩ := AppL.grown hE happ hys hG hlo n1 n2 q3 q2 hown hgr
  have := h _ _ w' r1 r2 (fun f hf hne => hgr.block f hf (fun e => hne f e.symm rfl)) (fun k hk => by
   have hk' : k = g' := by
    simp only [Value.ownBlock] at hk
    first | exact (Option.some.inj hk).symm | (split at hk <;> simp_all)
   subst hk'; exact hat) hgr.size
  rwa [List.length_append] at this
end
theorem info_Byte2 : (Tryz.prog.info? 5).map (fun i => (i.zero, i.size, i.bytes)) = some (some (.int .u8 0), 1, 1) := by kernel_rfl
theorem AppL.made {E : World → Nat → Nat → Int → List Nat → Prop} {e : TypeId} (w : World) (rlo n : Nat) (v : Value) (hl : rlo ≤ w.heap.size) (hn : n ≤ maxLen) : AppL E 1 e (w.alloc (.cells (madeCells #[v] (n * 1)) e)) rlo (Option.some ⟨w.heap.size, 0, none⟩) n [] [] :=
 Or.inr ⟨w.heap.size, madeCells #[v] (n * 1), rfl, hl, heap_alloc_new w _, Nat.zero_le _, hn, size_madeCells _ _, rfl, by simp⟩
theorem conv_bytes (w : World) (rlo : Nat) (a : Option Addr) (cap : Nat) (l : List Int) (F : List Nat) (h : AppL EByte 1 5 w rlo a cap l F) :
  (convert 22 9 (.slice a l.length cap)).run Tryz.prog w = .ok (.string (strOfNums l)) w := by
 rcases h with ⟨rfl, rfl, rfl, _⟩ | ⟨g, cur, rfl, h1, h3, h4, h5, h6, h7, h8⟩
 ·exact run_convert_bytes_nil w 22 5 Tryz.underlying22 Tryz.underlying5 0 0 9 Tryz.underlying9
 ·exact run_convert_bytes_arg w 22 5 Tryz.underlying22 Tryz.underlying5 g 0 l.length cap l rfl (fun i hi => by
   obtain ⟨F', hv, _⟩ := h7.get i hi
   have := hv.2.1
   rw [Nat.mul_one] at this
   rw [this, List.getD_eq_getElem?_getD, List.getElem?_eq_getElem hi]; rfl) 9 Tryz.underlying9
theorem spec_l1InE (n lo hi : Int) (w : World) : Calls Tryz.prog 74 #[.int .i64 n, .int .i64 lo, .int .i64 hi] w fun e w' => e = .returned (.bool (decide (lo ≤ n ∧ n ≤ hi))) ∧ w' = w := by
 by_cases h1 : lo ≤ n
 ·by_cases h2 : n ≤ hi
  ·have hd : decide (lo ≤ n ∧ n ≤ hi) = true := decide_eq_true ⟨h1, h2⟩
   rw [hd]; clear hd
   go_enter Tryz.func74, Tryz.ntmps74
   go_wp2
   go_ret
   exact ⟨rfl, rfl⟩
  ·have hd : decide (lo ≤ n ∧ n ≤ hi) = false := decide_eq_false (fun h => h2 h.2)
   rw [hd]; clear hd
   go_enter Tryz.func74, Tryz.ntmps74
   go_wp2
   go_ret
   exact ⟨rfl, rfl⟩
 ·have hd : decide (lo ≤ n ∧ n ≤ hi) = false := decide_eq_false (fun h => h1 h.1)
  rw [hd]; clear hd
  go_enter Tryz.func74, Tryz.ntmps74
  go_wp2
  go_ret
  exact ⟨rfl, rfl⟩
theorem impl_withinE (n lo hi : Int) (w : World) : Calls Tryz.prog 125 #[.int .i64 n, .int .i64 lo, .int .i64 hi] w fun e w' => e = .returned (.bool (decide (lo ≤ n ∧ n ≤ hi))) ∧ w' = w := by
 by_cases h1 : lo ≤ n
 ·by_cases h2 : n ≤ hi
  ·have hd : decide (lo ≤ n ∧ n ≤ hi) = true := decide_eq_true ⟨h1, h2⟩
   rw [hd]; clear hd
   go_enter Tryz.func125, Tryz.ntmps125
   go_wp2
   go_ret
   exact ⟨rfl, rfl⟩
  ·have hd : decide (lo ≤ n ∧ n ≤ hi) = false := decide_eq_false (fun h => h2 h.2)
   rw [hd]; clear hd
   go_enter Tryz.func125, Tryz.ntmps125
   go_wp2
   go_ret
   exact ⟨rfl, rfl⟩
 ·have hd : decide (lo ≤ n ∧ n ≤ hi) = false := decide_eq_false (fun h => h1 h.1)
  rw [hd]; clear hd
  go_enter Tryz.func125, Tryz.ntmps125
  go_wp2
  go_ret
  exact ⟨rfl, rfl⟩
def okW (w : Int) : Bool := w == 1 || w == 2 || w == 4 || w == 8
theorem okW_iff (w : Int) : okW w = true ↔ (w = 1 ∨ w = 2 ∨ w = 4 ∨ w = 8) := by unfold okW; simp [or_assoc]
theorem spec_l3WidthE (n : Int) (w : World) : Calls Tryz.prog 192 #[.int .i64 n] w fun e w' => e = .returned (.bool (okW n)) ∧ w' = w := by
 go_enter Tryz.func192, Tryz.ntmps192
 go_wp2
 all_goals
  go_ret
  exact ⟨ret_b (by first | rfl | (simp [okW]; done) | (simp [okW]; omega)), rfl⟩
theorem spec_l3Width (n : Int) (w : World) : Calls Tryz.prog 192 #[.int .i64 n] w fun e w' => e = .returned (.bool (okW n)) ∧ Below w.heap.size w w' := (spec_l3WidthE n w).mono (fun _ _ h => ⟨h.1, h.2 ▸ Below.refl _ _⟩)
theorem impl_isWidthE (n : Int) (w : World) : Calls Tryz.prog 219 #[.int .i64 n] w fun e w' => e = .returned (.bool (okW n)) ∧ w' = w := by
 go_enter Tryz.func219, Tryz.ntmps219
 go_wp2
 all_goals
  go_ret
  exact ⟨ret_b (by first | rfl | (simp [okW]; done) | (simp [okW]; omega)), rfl⟩
theorem impl_isWidth (n : Int) (w : World) : Calls Tryz.prog 219 #[.int .i64 n] w fun e w' => e = .returned (.bool (okW n)) ∧ Below w.heap.size w w' := (impl_isWidthE n w).mono (fun _ _ h => ⟨h.1, h.2 ▸ Below.refl _ _⟩)
theorem spec_WidthForE (n : Int) (w : World) : Calls Tryz.prog 133 #[.int .i64 n] w fun e w' => e = .returned (.int .i64 (widthD n)) ∧ w' = w := by
 have HD := Lib.hid (show widthD n = if n < 0 then 0 else if n < 256 then 1 else if n < 65536 then 2 else if n < 4294967296 then 4 else 8 from rfl)
 by_cases h1 : n < 0
 ·go_enter Tryz.func133, Tryz.ntmps133
  go_wp2
  go_ret
  exact ⟨ret_i (by rw [HD.out, if_pos (by omega)]), rfl⟩
 by_cases h2 : n < 256
 ·go_enter Tryz.func133, Tryz.ntmps133
  go_wp2
  go_ret
  exact ⟨ret_i (by rw [HD.out, if_neg (by omega), if_pos (by omega)]), rfl⟩
 by_cases h3 : n < 65536
 ·go_enter Tryz.func133, Tryz.ntmps133
  go_wp2
  go_ret
  exact ⟨ret_i (by rw [HD.out, if_neg (by omega), if_neg (by omega), if_pos (by omega)]), rfl⟩
 by_cases h4 : n < 4294967296
 ·go_enter Tryz.func133, Tryz.ntmps133
  go_wp2
  go_ret
  exact ⟨ret_i (by rw [HD.out, if_neg (by omega), if_neg (by omega), if_neg (by omega), if_pos (by omega)]), rfl⟩
 go_enter Tryz.func133, Tryz.ntmps133
 go_wp2
 go_ret
 exact ⟨ret_i (by rw [HD.out, if_neg (by omega), if_neg (by omega), if_neg (by omega), if_neg (by omega)]), rfl⟩
theorem spec_WidthFor (n : Int) (w : World) : Calls Tryz.prog 133 #[.int .i64 n] w fun e w' => e = .returned (.int .i64 (widthD n)) ∧ Below w.heap.size w w' := (spec_WidthForE n w).mono (fun _ _ h => ⟨h.1, h.2 ▸ Below.refl _ _⟩)
theorem impl_fitsIntoE (n k : Int) (w : World) (hk : k = 1 ∨ k = 2 ∨ k = 4 ∨ k = 8) (hn : I64 n) : Calls Tryz.prog 220 #[.int .i64 n, .int .i64 k] w fun e w' => e = .returned (.bool (decide (fitW n k))) ∧ w' = w := by
 obtain ⟨hn0, hn1⟩ := hn
 by_cases h0 : n < 0
 ·have hd : decide (fitW n k) = false := decide_eq_false (by unfold fitW; omega)
  rw [hd]; clear hd
  go_enter Tryz.func220, Tryz.ntmps220
  go_wp2
  go_ret
  exact ⟨rfl, rfl⟩
 obtain rfl | rfl | rfl | rfl := hk
 ·have hd : (n / 256 == 0) = decide (fitW n 1) := by rw [Bool.eq_iff_iff]; simp only [beq_iff_eq, decide_eq_true_iff]; unfold fitW; omega
  rw [← hd]; clear hd
  go_enter Tryz.func220, Tryz.ntmps220
  go_wp2
  go_ret
  exact ⟨rfl, rfl⟩
 ·have hd : (n / 65536 == 0) = decide (fitW n 2) := by rw [Bool.eq_iff_iff]; simp only [beq_iff_eq, decide_eq_true_iff]; unfold fitW; omega
  rw [← hd]; clear hd
  go_enter Tryz.func220, Tryz.ntmps220
  go_wp2
  go_ret
  exact ⟨rfl, rfl⟩
 ·have hd : (n / 4294967296 == 0) = decide (fitW n 4) := by rw [Bool.eq_iff_iff]; simp only [beq_iff_eq, decide_eq_true_iff]; unfold fitW; omega
  rw [← hd]; clear hd
  go_enter Tryz.func220, Tryz.ntmps220
  go_wp2
  go_ret
  exact ⟨rfl, rfl⟩
 ·have hd : decide (fitW n 8) = true := decide_eq_true (by unfold fitW; omega)
  rw [hd]; clear hd
  go_enter Tryz.func220, Tryz.ntmps220
  go_wp2
  go_ret
  exact ⟨rfl, rfl⟩
theorem impl_fitsInto (n k : Int) (w : World) (hk : k = 1 ∨ k = 2 ∨ k = 4 ∨ k = 8) (hn : I64 n) : Calls Tryz.prog 220 #[.int .i64 n, .int .i64 k] w fun e w' => e = .returned (.bool (decide (fitW n k))) ∧ Below w.heap.size w w' := (impl_fitsIntoE n k w hk hn).mono (fun _ _ h => ⟨h.1, h.2 ▸ Below.refl _ _⟩)
theorem impl_WidthForE (n : Int) (w : World) (hn : I64 n) : Calls Tryz.prog 236 #[.int .i64 n] w fun e w' => e = .returned (.int .i64 (widthD n)) ∧ w' = w := by
 have HN := Lib.hid hn
 clear hn
 by_cases h0 : n < 0
 ·have HD := Lib.hid (show widthD n = 0 from if_pos h0)
  rw [HD.out]
  go_enter Tryz.func236, Tryz.ntmps236
  go_wp2
  go_ret
  exact ⟨rfl, rfl⟩
 ·go_enter Tryz.func236, Tryz.ntmps236
  go_wp2_with fail
  go_loopw [3] (fun v wr => ∃ k : Int, v = .int .i64 k ∧ (k = 1 ∨ k = 2 ∨ k = 4 ∨ k = 8) ∧ Hid (k ≤ widthD n) ∧ wr = w) (fun v _ => 8 - (intOf v).toNat)
  case atStart => exact ⟨1, rfl, by omega, Lib.hid (by have := widthD_in n (by omega); omega), rfl⟩
  case round =>
   obtain ⟨k, rfl, hk, HK, rfl⟩ := hrel
   have HI := Lib.hid (widthD_in n (by omega))
   have HF := Lib.hid (widthD_fit n k (by omega) hk)
   by_cases hf : fitW n k
   ·have hd : decide (fitW n k) = true := decide_eq_true hf
    have HE : Hid (widthD n = k) := Lib.hid (by have := HF.out.1 hf; have := HK.out; omega)
    go_wp2_with fail
    refine (impl_fitsIntoE n k _ hk HN.out).mono ?_
    rintro e w2 ⟨rfl, rfl⟩
    rw [hd]
    clear hd
    go_wp2_with fail
    go_ret
    exact ⟨ret_i HE.out.symm, rfl⟩
   ·have hd : decide (fitW n k) = false := decide_eq_false hf
    have hk2 : k = 1 ∨ k = 2 ∨ k = 4 := by rcases hk with h | h | h | h; (· omega); (· omega); (· omega); exact absurd (HF.out.2 (by have := HI.out; omega)) hf
    have HE : Hid (2 * k ≤ widthD n) := Lib.hid (by have h1 : ¬ widthD n ≤ k := fun h => hf (HF.out.2 h); have := HI.out; omega)
    go_wp2_with fail
    refine (impl_fitsIntoE n k _ hk HN.out).mono ?_
    rintro e w2 ⟨rfl, rfl⟩
    rw [hd]
    clear hd hf
    obtain rfl | rfl | rfl := hk2
    all_goals
     go_wp2_with fail
     go_roundw
     case rel => exact ⟨_, rfl, by omega, Lib.hid (by have := HE.out; omega), by first | rfl | trivial⟩
     case measure => simp [intOf]
theorem and255 (x : Int) (h0 : 0 ≤ x) (h1 : x ≤ 9223372036854775807) : bits .and .i64 x 255 = x % 256 := by
 obtain ⟨u, rfl⟩ := Int.eq_ofNat_of_zero_le h0
 have h2 : (BitVec.ofInt 64 (u : Int)).toNat = u := by
  rw [BitVec.ofInt_natCast, BitVec.toNat_ofNat]; exact Nat.mod_eq_of_lt (by omega)
 show IntKind.i64.wrap ((BitVec.ofInt 64 (u : Int) &&& BitVec.ofInt 64 255).toNat : Int) = _
 rw [BitVec.toNat_and, h2, show (BitVec.ofInt 64 255).toNat = 255 from by decide, Nat.and_two_pow_sub_one_eq_mod u 8, Go.IntWalk.i64_left]
 rw [Go.IntWalk.wrap64_in _ ⟨by omega, by omega⟩]
 omega
theorem u8_mod (x : Int) : IntKind.u8.wrap (x % 256) = x % 256 := by
 rw [IntKind.wrap_u8]; omega
theorem fitW_w {n k : Int} (h : fitW n k) : k = 1 ∨ k = 2 ∨ k = 4 ∨ k = 8 := by obtain ⟨_, h⟩ := h; omega
theorem copyB (w : World) (b : List Int) (a : Option Addr) (cap B : Nat) (hr : Rd EByte 1 w B a cap b) (hB : B ≤ w.heap.size) (hz : b.length ≤ 1099511627776) :
  ∃ a' cap' w', (Builtin.append_ #[22, 22] 22 #[.slice (some ⟨w.heap.size, 0, none⟩) 0 0, .slice a b.length cap]).run Tryz.prog (w.alloc (.cells #[] 5)) = .ok (.slice a' b.length cap') w' ∧
   AppL EByte 1 5 w' w.heap.size a' cap' b [] ∧ Below w.heap.size w w' := by
 obtain ⟨a', cap', w', hrun, happ, hbel, _, _, _⟩ := run_appL (P := Tryz.prog) (w.alloc (.cells #[] 5)) EByte.elem 22 22 (.int .u8 0) 1 Tryz.underlying22 info_Byte2 rfl w.heap.size (some ⟨w.heap.size, 0, none⟩) 0 [] [] (AppL.empty w w.heap.size (Nat.le_refl _)) (by simp) (by simp) a cap b [] ((hr.below EByte.loc (below1 w _) hB).srcs EByte.flat) (by simp) (by simp [maxLen]; omega) (by simp; omega)
 exact ⟨a', cap', w', hrun, happ, (below1 w _).trans hbel⟩
set_option maxHeartbeats 8000000 in
theorem spec_PutBig (b : List Int) (n k : Int) (a : Option Addr) (cap B : Nat) (w : World) (hr : Rd EByte 1 w B a cap b) (hf : fitW n k) (hn : n ≤ 9223372036854775807) (hz : b.length ≤ 1099511627776) (hB : B ≤ w.heap.size) :
  Calls Tryz.prog 132 #[.slice a b.length cap, .int .i64 n, .int .i64 k] w fun e w' => ∃ a' cap', e = .returned (.slice a' (b ++ bigL n k.toNat).length cap') ∧ AppL EByte 1 5 w' w.heap.size a' cap' (b ++ bigL n k.toNat) [] ∧ Below w.heap.size w w' := by
 obtain ⟨a1, c1, w1, hrun, happ, hb1⟩ := copyB w b a cap B hr hB hz
 obtain ⟨hl1, hl2⟩ := hr.len
 have HA1 := Lib.hid happ
 have HB1 := Lib.hid hb1
 have hk := fitW_w hf
 obtain ⟨hn0, hfk⟩ := hf
 have hs1 := hb1.size
 have hkb : okW k = true := (okW_iff k).2 hk
 have hkl : k.toNat ≤ 8 := by omega
 clear happ hb1 hr
 go_enter Tryz.func132, Tryz.ntmps132
 go_upto_region 2 with (at_builtin; refine Lib.wpList_append_run _ rfl _ _ _ _ rfl _ _ rfl rfl _ _ hrun ?_)
 clear hrun
 go_cut [29] (fun cv wx => cv = .bool false ∧ Hid (Below w1.heap.size w1 wx))
 case first =>
  obtain rfl | rfl | rfl | rfl := hk
  ·have hq : n / 256 = 0 := by omega
   go_wp2_with fail
   refine (spec_l3Width 1 _).mono ?_
   rintro e w2 ⟨rfl, hb2⟩
   rw [hkb]
   have K := Lib.hid hb2; clear hb2
   go_wp2_with fail
   go_meet
   case rel => exact ⟨by first | rfl | rw [decide_eq_false (show ¬ n < 0 by omega)], K⟩
  ·have hq : n / 65536 = 0 := by omega
   go_wp2_with fail
   refine (spec_l3Width 2 _).mono ?_
   rintro e w2 ⟨rfl, hb2⟩
   rw [hkb]
   have K := Lib.hid hb2; clear hb2
   go_wp2_with fail
   go_meet
   case rel => exact ⟨by first | rfl | rw [decide_eq_false (show ¬ n < 0 by omega)], K⟩
  ·have hq : n / 4294967296 = 0 := by omega
   go_wp2_with fail
   refine (spec_l3Width 4 _).mono ?_
   rintro e w2 ⟨rfl, hb2⟩
   rw [hkb]
   have K := Lib.hid hb2; clear hb2
   go_wp2_with fail
   go_meet
   case rel => exact ⟨by first | rfl | rw [decide_eq_false (show ¬ n < 0 by omega)], K⟩
  ·go_wp2_with fail
   refine (spec_l3Width 8 _).mono ?_
   rintro e w2 ⟨rfl, hb2⟩
   rw [hkb]
   have K := Lib.hid hb2; clear hb2
   go_wp2_with fail
   go_meet
   case rel => exact ⟨by first | rfl | rw [decide_eq_false (show ¬ n < 0 by omega)], K⟩
 case rest =>
  obtain ⟨rfl, HX⟩ := hcut
  rename World => wx
  have hk1 : -9223372036854775808 ≤ k - 1 ∧ k - 1 ≤ 9223372036854775807 := by omega
  have e1 : (k - 1 : Int) = ((k.toNat : Nat) : Int) - 1 := by omega
  have HE1 := Lib.hid e1
  clear e1 hfk
  go_upto_region 5 with (fail)
  have HX1 := Lib.hid (HA1.out.agree EByte.elem (fun f hf => HX.out.block f hf) hs1)
  have HX2 := Lib.hid (HB1.out.trans (HX.out.mono hs1))
  have hkz : k.toNat ≤ 8 := hkl
  go_loopw [7, 8] (fun q iv wr => ∃ (m : Nat) (out : List Int) (ar : Option Addr) (cr : Nat), m ≤ 8 ∧ iv = .int .i64 ((m : Int) - 1) ∧ q = .slice ar out.length cr ∧ Hid (AppL EByte 1 5 wr w.heap.size ar cr out []) ∧ Hid (out ++ bigL n m = b ++ bigL n k.toNat) ∧ Hid (Below w.heap.size w wr)) (fun _ iv _ => (intOf iv + 1).toNat)
  case atStart => exact ⟨k.toNat, b, a1, c1, hkl, by rw [← HE1.out], rfl, HX1, Lib.hid rfl, HX2⟩
  case round =>
   clear HX1 HX2 HA1 HB1 HX
   obtain ⟨m, out, ar, cr, hm, rfl, rfl, HA, HO, HB⟩ := hrel
   have hbs := HB.out.size
   have hol : out.length ≤ 1099511627784 := by
    have h1 := congrArg List.length HO.out
    rw [List.length_append, List.length_append, bigL_len, bigL_len] at h1; omega
   cases m with
   | zero =>
    have HE : Hid (out = b ++ bigL n k.toNat) := Lib.hid (by have := HO.out; rw [bigL, List.append_nil] at this; exact this)
    have h0 : ((0 : Nat) : Int) - 1 = -1 := rfl
    rw [h0]
    go_wp2_with fail
    go_ret
    exact ⟨ar, cr, by rw [← HE.out]; rfl, by rw [← HE.out]; exact HA.out, HB.out⟩
   | succ m =>
    have HO2 : Hid ((out ++ [n / 256 ^ m % 256]) ++ bigL n m = b ++ bigL n k.toNat) := Lib.hid (by have := HO.out; rw [bigL] at this; rw [List.append_assoc]; exact this)
    have h0 : ((m + 1 : Nat) : Int) - 1 = (m : Int) := by omega
    rw [h0]
    have hU : U8 (n / 256 ^ m % 256) := by unfold U8; omega
    have HN := Lib.hid (HA.out.agree EByte.elem (fun f hf => (below1 wr (.cells #[Value.int IntKind.u8 (n / 256 ^ m % 256)] 5)).block f hf) hbs)
    have hmm : m = 0 ∨ m = 1 ∨ m = 2 ∨ m = 3 ∨ m = 4 ∨ m = 5 ∨ m = 6 ∨ m = 7 := by omega
    clear HO
    obtain rfl | rfl | rfl | rfl | rfl | rfl | rfl | rfl := hmm
    ·have ev : n / 256 ^ 0 % 256 = n % 256 := by rw [Int.pow_zero, Int.ediv_one]
     have hand := and255 n (by omega) (by omega)
     have hu8 := u8_mod n
     rw [ev] at HO2 hU HN
     clear ev
     go_wp2_with (at_builtin; refine wpList_appL EByte.elem rfl _ _ 22 rfl (.int .u8 0) 1 Tryz.underlying22 info_Byte2 rfl w.heap.size ar cr out [] rfl HN.out (by simp; omega) wr.heap.size 0 1 1 [n % 256] [] rfl rfl ⟨[], [], rfl, ⟨rfl, (Is.new wr #[.int .u8 (n % 256)] 5).cell 0 rfl, hU⟩, rfl⟩ (by simp) (by omega) (by unfold maxLen; omega) (by omega) ?_; intro ar2 cr2 w3 happ3 hb3)
     exact ⟨⟨0, out ++ [n % 256], ar2, cr2, by omega, by first | rfl | go_num, by rw [List.length_append]; rfl, Lib.hid happ3, HO2, Lib.hid ((HB.out.trans ((below1 wr _).mono hbs)).trans hb3)⟩, by simp [intOf]⟩
    ·have ev : n / 256 ^ 1 % 256 = n / 256 % 256 := by rw [show (256 : Int) ^ 1 = 256 from by decide]
     have hand := and255 (n / 256) (by omega) (by omega)
     have hu8 := u8_mod (n / 256)
     rw [ev] at HO2 hU HN
     clear ev
     go_wp2_with (at_builtin; refine wpList_appL EByte.elem rfl _ _ 22 rfl (.int .u8 0) 1 Tryz.underlying22 info_Byte2 rfl w.heap.size ar cr out [] rfl HN.out (by simp; omega) wr.heap.size 0 1 1 [n / 256 % 256] [] rfl rfl ⟨[], [], rfl, ⟨rfl, (Is.new wr #[.int .u8 (n / 256 % 256)] 5).cell 0 rfl, hU⟩, rfl⟩ (by simp) (by omega) (by unfold maxLen; omega) (by omega) ?_; intro ar2 cr2 w3 happ3 hb3)
     exact ⟨⟨1, out ++ [n / 256 % 256], ar2, cr2, by omega, by first | rfl | go_num, by rw [List.length_append]; rfl, Lib.hid happ3, HO2, Lib.hid ((HB.out.trans ((below1 wr _).mono hbs)).trans hb3)⟩, by simp [intOf]⟩
    ·have ev : n / 256 ^ 2 % 256 = n / 65536 % 256 := by rw [show (256 : Int) ^ 2 = 65536 from by decide]
     have hand := and255 (n / 65536) (by omega) (by omega)
     have hu8 := u8_mod (n / 65536)
     rw [ev] at HO2 hU HN
     clear ev
     go_wp2_with (at_builtin; refine wpList_appL EByte.elem rfl _ _ 22 rfl (.int .u8 0) 1 Tryz.underlying22 info_Byte2 rfl w.heap.size ar cr out [] rfl HN.out (by simp; omega) wr.heap.size 0 1 1 [n / 65536 % 256] [] rfl rfl ⟨[], [], rfl, ⟨rfl, (Is.new wr #[.int .u8 (n / 65536 % 256)] 5).cell 0 rfl, hU⟩, rfl⟩ (by simp) (by omega) (by unfold maxLen; omega) (by omega) ?_; intro ar2 cr2 w3 happ3 hb3)
     exact ⟨⟨2, out ++ [n / 65536 % 256], ar2, cr2, by omega, by first | rfl | go_num, by rw [List.length_append]; rfl, Lib.hid happ3, HO2, Lib.hid ((HB.out.trans ((below1 wr _).mono hbs)).trans hb3)⟩, by simp [intOf]⟩
    ·have ev : n / 256 ^ 3 % 256 = n / 16777216 % 256 := by rw [show (256 : Int) ^ 3 = 16777216 from by decide]
     have hand := and255 (n / 16777216) (by omega) (by omega)
     have hu8 := u8_mod (n / 16777216)
     rw [ev] at HO2 hU HN
     clear ev
     go_wp2_with (at_builtin; refine wpList_appL EByte.elem rfl _ _ 22 rfl (.int .u8 0) 1 Tryz.underlying22 info_Byte2 rfl w.heap.size ar cr out [] rfl HN.out (by simp; omega) wr.heap.size 0 1 1 [n / 16777216 % 256] [] rfl rfl ⟨[], [], rfl, ⟨rfl, (Is.new wr #[.int .u8 (n / 16777216 % 256)] 5).cell 0 rfl, hU⟩, rfl⟩ (by simp) (by omega) (by unfold maxLen; omega) (by omega) ?_; intro ar2 cr2 w3 happ3 hb3)
     exact ⟨⟨3, out ++ [n / 16777216 % 256], ar2, cr2, by omega, by first | rfl | go_num, by rw [List.length_append]; rfl, Lib.hid happ3, HO2, Lib.hid ((HB.out.trans ((below1 wr _).mono hbs)).trans hb3)⟩, by simp [intOf]⟩
    ·have ev : n / 256 ^ 4 % 256 = n / 4294967296 % 256 := by rw [show (256 : Int) ^ 4 = 4294967296 from by decide]
     have hand := and255 (n / 4294967296) (by omega) (by omega)
     have hu8 := u8_mod (n / 4294967296)
     rw [ev] at HO2 hU HN
     clear ev
     go_wp2_with (at_builtin; refine wpList_appL EByte.elem rfl _ _ 22 rfl (.int .u8 0) 1 Tryz.underlying22 info_Byte2 rfl w.heap.size ar cr out [] rfl HN.out (by simp; omega) wr.heap.size 0 1 1 [n / 4294967296 % 256] [] rfl rfl ⟨[], [], rfl, ⟨rfl, (Is.new wr #[.int .u8 (n / 4294967296 % 256)] 5).cell 0 rfl, hU⟩, rfl⟩ (by simp) (by omega) (by unfold maxLen; omega) (by omega) ?_; intro ar2 cr2 w3 happ3 hb3)
     exact ⟨⟨4, out ++ [n / 4294967296 % 256], ar2, cr2, by omega, by first | rfl | go_num, by rw [List.length_append]; rfl, Lib.hid happ3, HO2, Lib.hid ((HB.out.trans ((below1 wr _).mono hbs)).trans hb3)⟩, by simp [intOf]⟩
    ·have ev : n / 256 ^ 5 % 256 = n / 1099511627776 % 256 := by rw [show (256 : Int) ^ 5 = 1099511627776 from by decide]
     have hand := and255 (n / 1099511627776) (by omega) (by omega)
     have hu8 := u8_mod (n / 1099511627776)
     rw [ev] at HO2 hU HN
     clear ev
     go_wp2_with (at_builtin; refine wpList_appL EByte.elem rfl _ _ 22 rfl (.int .u8 0) 1 Tryz.underlying22 info_Byte2 rfl w.heap.size ar cr out [] rfl HN.out (by simp; omega) wr.heap.size 0 1 1 [n / 1099511627776 % 256] [] rfl rfl ⟨[], [], rfl, ⟨rfl, (Is.new wr #[.int .u8 (n / 1099511627776 % 256)] 5).cell 0 rfl, hU⟩, rfl⟩ (by simp) (by omega) (by unfold maxLen; omega) (by omega) ?_; intro ar2 cr2 w3 happ3 hb3)
     exact ⟨⟨5, out ++ [n / 1099511627776 % 256], ar2, cr2, by omega, by first | rfl | go_num, by rw [List.length_append]; rfl, Lib.hid happ3, HO2, Lib.hid ((HB.out.trans ((below1 wr _).mono hbs)).trans hb3)⟩, by simp [intOf]⟩
    ·have ev : n / 256 ^ 6 % 256 = n / 281474976710656 % 256 := by rw [show (256 : Int) ^ 6 = 281474976710656 from by decide]
     have hand := and255 (n / 281474976710656) (by omega) (by omega)
     have hu8 := u8_mod (n / 281474976710656)
     rw [ev] at HO2 hU HN
     clear ev
     go_wp2_with (at_builtin; refine wpList_appL EByte.elem rfl _ _ 22 rfl (.int .u8 0) 1 Tryz.underlying22 info_Byte2 rfl w.heap.size ar cr out [] rfl HN.out (by simp; omega) wr.heap.size 0 1 1 [n / 281474976710656 % 256] [] rfl rfl ⟨[], [], rfl, ⟨rfl, (Is.new wr #[.int .u8 (n / 281474976710656 % 256)] 5).cell 0 rfl, hU⟩, rfl⟩ (by simp) (by omega) (by unfold maxLen; omega) (by omega) ?_; intro ar2 cr2 w3 happ3 hb3)
     exact ⟨⟨6, out ++ [n / 281474976710656 % 256], ar2, cr2, by omega, by first | rfl | go_num, by rw [List.length_append]; rfl, Lib.hid happ3, HO2, Lib.hid ((HB.out.trans ((below1 wr _).mono hbs)).trans hb3)⟩, by simp [intOf]⟩
    ·have ev : n / 256 ^ 7 % 256 = n / 72057594037927936 % 256 := by rw [show (256 : Int) ^ 7 = 72057594037927936 from by decide]
     have hand := and255 (n / 72057594037927936) (by omega) (by omega)
     have hu8 := u8_mod (n / 72057594037927936)
     rw [ev] at HO2 hU HN
     clear ev
     go_wp2_with (at_builtin; refine wpList_appL EByte.elem rfl _ _ 22 rfl (.int .u8 0) 1 Tryz.underlying22 info_Byte2 rfl w.heap.size ar cr out [] rfl HN.out (by simp; omega) wr.heap.size 0 1 1 [n / 72057594037927936 % 256] [] rfl rfl ⟨[], [], rfl, ⟨rfl, (Is.new wr #[.int .u8 (n / 72057594037927936 % 256)] 5).cell 0 rfl, hU⟩, rfl⟩ (by simp) (by omega) (by unfold maxLen; omega) (by omega) ?_; intro ar2 cr2 w3 happ3 hb3)
     exact ⟨⟨7, out ++ [n / 72057594037927936 % 256], ar2, cr2, by omega, by first | rfl | go_num, by rw [List.length_append]; rfl, Lib.hid happ3, HO2, Lib.hid ((HB.out.trans ((below1 wr _).mono hbs)).trans hb3)⟩, by simp [intOf]⟩
set_option maxHeartbeats 8000000 in
theorem impl_PutBig (b : List Int) (n k : Int) (a : Option Addr) (cap B : Nat) (w : World) (hr : Rd EByte 1 w B a cap b) (hf : fitW n k) (hn : n ≤ 9223372036854775807) (hz : b.length ≤ 1099511627776) (hB : B ≤ w.heap.size) :
  Calls Tryz.prog 238 #[.slice a b.length cap, .int .i64 n, .int .i64 k] w fun e w' => ∃ a' cap', e = .returned (.slice a' (b ++ bigL n k.toNat).length cap') ∧ AppL EByte 1 5 w' w.heap.size a' cap' (b ++ bigL n k.toNat) [] ∧ Below w.heap.size w w' := by
 obtain ⟨a1, c1, w1, hrun, happ, hb1⟩ := copyB w b a cap B hr hB hz
 obtain ⟨hl1, hl2⟩ := hr.len
 have HA1 := Lib.hid happ
 have HB1 := Lib.hid hb1
 have hk := fitW_w hf
 have hfd : decide (fitW n k) = true := decide_eq_true hf
 obtain ⟨hn0, hfk⟩ := hf
 have hs1 := hb1.size
 have hkb : okW k = true := (okW_iff k).2 hk
 have hkl : k.toNat ≤ 8 := by omega
 clear happ hb1 hr
 go_enter Tryz.func238, Tryz.ntmps238
 go_upto_region 2 with (at_builtin; refine Lib.wpList_append_run _ rfl _ _ _ _ rfl _ _ rfl rfl _ _ hrun ?_)
 clear hrun
 go_cut [20] (fun cv wx => cv = .bool false ∧ Hid (Below w1.heap.size w1 wx))
 case first =>
  go_wp2_with fail
  refine (impl_isWidth k _).mono ?_
  rintro e w2 ⟨rfl, hb2⟩
  rw [hkb]
  have K := Lib.hid hb2
  have ks := hb2.size
  clear hb2
  go_wp2_with fail
  refine (impl_fitsInto n k _ hk ⟨by omega, hn⟩).mono ?_
  rintro e w3 ⟨rfl, hb3⟩
  rw [hfd]
  have K2 := Lib.hid (K.out.trans (hb3.mono ks)); clear hb3
  go_wp2_with fail
  go_meet
  case rel => exact ⟨rfl, K2⟩
 case rest =>
  obtain ⟨rfl, HX⟩ := hcut
  rename World => wx
  have hk1 : -9223372036854775808 ≤ k - 1 ∧ k - 1 ≤ 9223372036854775807 := by omega
  have e1 : (k - 1 : Int) = ((k.toNat : Nat) : Int) - 1 := by omega
  have HE1 := Lib.hid e1
  clear e1 hfk
  go_upto_region 5 with (fail)
  have HX1 := Lib.hid (HA1.out.agree EByte.elem (fun f hf => HX.out.block f hf) hs1)
  have HX2 := Lib.hid (HB1.out.trans (HX.out.mono hs1))
  have hkz : k.toNat ≤ 8 := hkl
  go_loopw [7, 8] (fun q iv wr => ∃ (m : Nat) (out : List Int) (ar : Option Addr) (cr : Nat), m ≤ 8 ∧ iv = .int .i64 ((m : Int) - 1) ∧ q = .slice ar out.length cr ∧ Hid (AppL EByte 1 5 wr w.heap.size ar cr out []) ∧ Hid (out ++ bigL n m = b ++ bigL n k.toNat) ∧ Hid (Below w.heap.size w wr)) (fun _ iv _ => (intOf iv + 1).toNat)
  case atStart => exact ⟨k.toNat, b, a1, c1, hkl, by rw [← HE1.out], rfl, HX1, Lib.hid rfl, HX2⟩
  case round =>
   clear HX1 HX2 HA1 HB1 HX
   obtain ⟨m, out, ar, cr, hm, rfl, rfl, HA, HO, HB⟩ := hrel
   have hbs := HB.out.size
   have hol : out.length ≤ 1099511627784 := by
    have h1 := congrArg List.length HO.out
    rw [List.length_append, List.length_append, bigL_len, bigL_len] at h1; omega
   cases m with
   | zero =>
    have HE : Hid (out = b ++ bigL n k.toNat) := Lib.hid (by have := HO.out; rw [bigL, List.append_nil] at this; exact this)
    have h0 : ((0 : Nat) : Int) - 1 = -1 := rfl
    rw [h0]
    go_wp2_with fail
    go_ret
    exact ⟨ar, cr, by rw [← HE.out]; rfl, by rw [← HE.out]; exact HA.out, HB.out⟩
   | succ m =>
    have HO2 : Hid ((out ++ [n / 256 ^ m % 256]) ++ bigL n m = b ++ bigL n k.toNat) := Lib.hid (by have := HO.out; rw [bigL] at this; rw [List.append_assoc]; exact this)
    have h0 : ((m + 1 : Nat) : Int) - 1 = (m : Int) := by omega
    rw [h0]
    have hU : U8 (n / 256 ^ m % 256) := by unfold U8; omega
    have HN := Lib.hid (HA.out.agree EByte.elem (fun f hf => (below1 wr (.cells #[Value.int IntKind.u8 (n / 256 ^ m % 256)] 5)).block f hf) hbs)
    have hmm : m = 0 ∨ m = 1 ∨ m = 2 ∨ m = 3 ∨ m = 4 ∨ m = 5 ∨ m = 6 ∨ m = 7 := by omega
    clear HO
    obtain rfl | rfl | rfl | rfl | rfl | rfl | rfl | rfl := hmm
    ·have ev : n / 256 ^ 0 % 256 = n % 256 := by rw [Int.pow_zero, Int.ediv_one]
     have hu8 : IntKind.u8.wrap n = n % 256 := IntKind.wrap_u8 _
     rw [ev] at HO2 hU HN
     clear ev
     go_wp2_with (at_builtin; refine wpList_appL EByte.elem rfl _ _ 22 rfl (.int .u8 0) 1 Tryz.underlying22 info_Byte2 rfl w.heap.size ar cr out [] rfl HN.out (by simp; omega) wr.heap.size 0 1 1 [n % 256] [] rfl rfl ⟨[], [], rfl, ⟨rfl, (Is.new wr #[.int .u8 (n % 256)] 5).cell 0 rfl, hU⟩, rfl⟩ (by simp) (by omega) (by unfold maxLen; omega) (by omega) ?_; intro ar2 cr2 w3 happ3 hb3)
     exact ⟨⟨0, out ++ [n % 256], ar2, cr2, by omega, by first | rfl | go_num, by rw [List.length_append]; rfl, Lib.hid happ3, HO2, Lib.hid ((HB.out.trans ((below1 wr _).mono hbs)).trans hb3)⟩, by simp [intOf]⟩
    ·have ev : n / 256 ^ 1 % 256 = n / 256 % 256 := by rw [show (256 : Int) ^ 1 = 256 from by decide]
     have hu8 : IntKind.u8.wrap (n / 256) = n / 256 % 256 := IntKind.wrap_u8 _
     rw [ev] at HO2 hU HN
     clear ev
     go_wp2_with (at_builtin; refine wpList_appL EByte.elem rfl _ _ 22 rfl (.int .u8 0) 1 Tryz.underlying22 info_Byte2 rfl w.heap.size ar cr out [] rfl HN.out (by simp; omega) wr.heap.size 0 1 1 [n / 256 % 256] [] rfl rfl ⟨[], [], rfl, ⟨rfl, (Is.new wr #[.int .u8 (n / 256 % 256)] 5).cell 0 rfl, hU⟩, rfl⟩ (by simp) (by omega) (by unfold maxLen; omega) (by omega) ?_; intro ar2 cr2 w3 happ3 hb3)
     exact ⟨⟨1, out ++ [n / 256 % 256], ar2, cr2, by omega, by first | rfl | go_num, by rw [List.length_append]; rfl, Lib.hid happ3, HO2, Lib.hid ((HB.out.trans ((below1 wr _).mono hbs)).trans hb3)⟩, by simp [intOf]⟩
    ·have ev : n / 256 ^ 2 % 256 = n / 65536 % 256 := by rw [show (256 : Int) ^ 2 = 65536 from by decide]
     have hu8 : IntKind.u8.wrap (n / 65536) = n / 65536 % 256 := IntKind.wrap_u8 _
     rw [ev] at HO2 hU HN
     clear ev
     go_wp2_with (at_builtin; refine wpList_appL EByte.elem rfl _ _ 22 rfl (.int .u8 0) 1 Tryz.underlying22 info_Byte2 rfl w.heap.size ar cr out [] rfl HN.out (by simp; omega) wr.heap.size 0 1 1 [n / 65536 % 256] [] rfl rfl ⟨[], [], rfl, ⟨rfl, (Is.new wr #[.int .u8 (n / 65536 % 256)] 5).cell 0 rfl, hU⟩, rfl⟩ (by simp) (by omega) (by unfold maxLen; omega) (by omega) ?_; intro ar2 cr2 w3 happ3 hb3)
     exact ⟨⟨2, out ++ [n / 65536 % 256], ar2, cr2, by omega, by first | rfl | go_num, by rw [List.length_append]; rfl, Lib.hid happ3, HO2, Lib.hid ((HB.out.trans ((below1 wr _).mono hbs)).trans hb3)⟩, by simp [intOf]⟩
    ·have ev : n / 256 ^ 3 % 256 = n / 16777216 % 256 := by rw [show (256 : Int) ^ 3 = 16777216 from by decide]
     have hu8 : IntKind.u8.wrap (n / 16777216) = n / 16777216 % 256 := IntKind.wrap_u8 _
     rw [ev] at HO2 hU HN
     clear ev
     go_wp2_with (at_builtin; refine wpList_appL EByte.elem rfl _ _ 22 rfl (.int .u8 0) 1 Tryz.underlying22 info_Byte2 rfl w.heap.size ar cr out [] rfl HN.out (by simp; omega) wr.heap.size 0 1 1 [n / 16777216 % 256] [] rfl rfl ⟨[], [], rfl, ⟨rfl, (Is.new wr #[.int .u8 (n / 16777216 % 256)] 5).cell 0 rfl, hU⟩, rfl⟩ (by simp) (by omega) (by unfold maxLen; omega) (by omega) ?_; intro ar2 cr2 w3 happ3 hb3)
     exact ⟨⟨3, out ++ [n / 16777216 % 256], ar2, cr2, by omega, by first | rfl | go_num, by rw [List.length_append]; rfl, Lib.hid happ3, HO2, Lib.hid ((HB.out.trans ((below1 wr _).mono hbs)).trans hb3)⟩, by simp [intOf]⟩
    ·have ev : n / 256 ^ 4 % 256 = n / 4294967296 % 256 := by rw [show (256 : Int) ^ 4 = 4294967296 from by decide]
     have hu8 : IntKind.u8.wrap (n / 4294967296) = n / 4294967296 % 256 := IntKind.wrap_u8 _
     rw [ev] at HO2 hU HN
     clear ev
     go_wp2_with (at_builtin; refine wpList_appL EByte.elem rfl _ _ 22 rfl (.int .u8 0) 1 Tryz.underlying22 info_Byte2 rfl w.heap.size ar cr out [] rfl HN.out (by simp; omega) wr.heap.size 0 1 1 [n / 4294967296 % 256] [] rfl rfl ⟨[], [], rfl, ⟨rfl, (Is.new wr #[.int .u8 (n / 4294967296 % 256)] 5).cell 0 rfl, hU⟩, rfl⟩ (by simp) (by omega) (by unfold maxLen; omega) (by omega) ?_; intro ar2 cr2 w3 happ3 hb3)
     exact ⟨⟨4, out ++ [n / 4294967296 % 256], ar2, cr2, by omega, by first | rfl | go_num, by rw [List.length_append]; rfl, Lib.hid happ3, HO2, Lib.hid ((HB.out.trans ((below1 wr _).mono hbs)).trans hb3)⟩, by simp [intOf]⟩
    ·have ev : n / 256 ^ 5 % 256 = n / 1099511627776 % 256 := by rw [show (256 : Int) ^ 5 = 1099511627776 from by decide]
     have hu8 : IntKind.u8.wrap (n / 1099511627776) = n / 1099511627776 % 256 := IntKind.wrap_u8 _
     rw [ev] at HO2 hU HN
     clear ev
     go_wp2_with (at_builtin; refine wpList_appL EByte.elem rfl _ _ 22 rfl (.int .u8 0) 1 Tryz.underlying22 info_Byte2 rfl w.heap.size ar cr out [] rfl HN.out (by simp; omega) wr.heap.size 0 1 1 [n / 1099511627776 % 256] [] rfl rfl ⟨[], [], rfl, ⟨rfl, (Is.new wr #[.int .u8 (n / 1099511627776 % 256)] 5).cell 0 rfl, hU⟩, rfl⟩ (by simp) (by omega) (by unfold maxLen; omega) (by omega) ?_; intro ar2 cr2 w3 happ3 hb3)
     exact ⟨⟨5, out ++ [n / 1099511627776 % 256], ar2, cr2, by omega, by first | rfl | go_num, by rw [List.length_append]; rfl, Lib.hid happ3, HO2, Lib.hid ((HB.out.trans ((below1 wr _).mono hbs)).trans hb3)⟩, by simp [intOf]⟩
    ·have ev : n / 256 ^ 6 % 256 = n / 281474976710656 % 256 := by rw [show (256 : Int) ^ 6 = 281474976710656 from by decide]
     have hu8 : IntKind.u8.wrap (n / 281474976710656) = n / 281474976710656 % 256 := IntKind.wrap_u8 _
     rw [ev] at HO2 hU HN
     clear ev
     go_wp2_with (at_builtin; refine wpList_appL EByte.elem rfl _ _ 22 rfl (.int .u8 0) 1 Tryz.underlying22 info_Byte2 rfl w.heap.size ar cr out [] rfl HN.out (by simp; omega) wr.heap.size 0 1 1 [n / 281474976710656 % 256] [] rfl rfl ⟨[], [], rfl, ⟨rfl, (Is.new wr #[.int .u8 (n / 281474976710656 % 256)] 5).cell 0 rfl, hU⟩, rfl⟩ (by simp) (by omega) (by unfold maxLen; omega) (by omega) ?_; intro ar2 cr2 w3 happ3 hb3)
     exact ⟨⟨6, out ++ [n / 281474976710656 % 256], ar2, cr2, by omega, by first | rfl | go_num, by rw [List.length_append]; rfl, Lib.hid happ3, HO2, Lib.hid ((HB.out.trans ((below1 wr _).mono hbs)).trans hb3)⟩, by simp [intOf]⟩
    ·have ev : n / 256 ^ 7 % 256 = n / 72057594037927936 % 256 := by rw [show (256 : Int) ^ 7 = 72057594037927936 from by decide]
     have hu8 : IntKind.u8.wrap (n / 72057594037927936) = n / 72057594037927936 % 256 := IntKind.wrap_u8 _
     rw [ev] at HO2 hU HN
     clear ev
     go_wp2_with (at_builtin; refine wpList_appL EByte.elem rfl _ _ 22 rfl (.int .u8 0) 1 Tryz.underlying22 info_Byte2 rfl w.heap.size ar cr out [] rfl HN.out (by simp; omega) wr.heap.size 0 1 1 [n / 72057594037927936 % 256] [] rfl rfl ⟨[], [], rfl, ⟨rfl, (Is.new wr #[.int .u8 (n / 72057594037927936 % 256)] 5).cell 0 rfl, hU⟩, rfl⟩ (by simp) (by omega) (by unfold maxLen; omega) (by omega) ?_; intro ar2 cr2 w3 happ3 hb3)
     exact ⟨⟨7, out ++ [n / 72057594037927936 % 256], ar2, cr2, by omega, by first | rfl | go_num, by rw [List.length_append]; rfl, Lib.hid happ3, HO2, Lib.hid ((HB.out.trans ((below1 wr _).mono hbs)).trans hb3)⟩, by simp [intOf]⟩
end Go.Proofs.YtggdenkmohnijaaGreatDoor
