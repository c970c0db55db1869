/- Texts of this proof, merged: WriT, WriP. No condition beyond what each theorem states. -/
import Derived.Test.YtggdenkmohnijaaGreatDoorZN32
set_option linter.unusedSimpArgs false
set_option linter.unnecessarySimpa false
namespace Go.Proofs.YtggdenkmohnijaaGreatDoor
open Go.ChangeShapes Go.WideShapes Go.ChangeAt Go.RowKit Go.Joins
set_option linter.unusedVariables false
set_option maxRecDepth 100000
def NB (w w' : World) : Prop := ∀ f, f < w.heap.size → (∀ cur, w.heap[f]? ≠ some (.cells cur 5 (0, 0))) → w'.heap[f]? = w.heap[f]?
theorem NB.refl (w : World) : NB w w := fun _ _ _ => rfl
theorem NB.trans {w w1 w2 : World} (h : NB w w1) (h2 : NB w1 w2) (hs : w.heap.size ≤ w1.heap.size) : NB w w2 := fun f hf hn => by
  have e := h f hf hn
  exact (h2 f (by omega) (fun cur => by rw [e]; exact hn cur)).trans e
theorem NB.of {w w' : World} (h : Below w.heap.size w w') : NB w w' := fun f hf _ => h.block f hf
theorem NB.is {w w' : World} {g : Nat} {e : TypeId} {cs : Array Value} (h : NB w w') (hi : Is w g e cs) (he : e ≠ 5) : Is w' g e cs := (h g hi.lt (fun cur hc => by
  have := hi.symm.trans hc
  simp only [Option.some.injEq, Obj.cells.injEq] at this
  exact he this.2.1)).trans hi
theorem AppL.nb {w w' : World} {rlo cap : Nat} {a : Option Addr} {l : List Int} {F : List Nat} (h : AppL EByte 1 5 w rlo a cap l F) (hout : ∀ f, f < w.heap.size → (∀ k, (Value.slice a l.length cap).ownBlock = Option.some k → f ≠ k) → w'.heap[f]? = w.heap[f]?) : NB w w' := fun f hf hn => hout f hf (fun k hk e => by
  subst e
  rcases h with ⟨rfl, rfl, rfl, _⟩ | ⟨g, cur, rfl, h1, h3, h4, h5, h6, h7, h8⟩
  · simp [Value.ownBlock] at hk
  · simp only [Value.ownBlock, Option.some.injEq] at hk
    subst hk
    exact hn cur h3)
theorem row1 {w : World} (b : Int) (hb : U8 b) : Row EByte 1 (w.alloc (.cells #[.int .u8 b] 5)) w.heap.size 0 [b] [] := ⟨[], [], rfl, ⟨rfl, (Is.new w #[.int .u8 b] 5).cell 0 rfl, hb⟩, rfl⟩
theorem byteL_snoc (o : ByteArray) (b : UInt8) : byteL o ++ [(b.toNat : Int)] = byteL (o ++ ⟨#[b]⟩) := by rw [byteL_append]; rfl
theorem ret_slT {a : Option Addr} {n m c : Nat} (h : n = m) : Ending.returned (.slice a n c) = .returned (.slice a m c) := by rw [h]
theorem wpList_byte {W : World} {ops : Array Oper} {rest : List Oper} {op : Oper} {act : Act} {Q : Exit → Act → World → Prop} (hgd : op.guard = none) (sl x : Operand)
    (ho : op.op = .call { callee := .builtin .append, args := #[sl, x], argTypes := #[22, 22] }) (rlo : Nat) (ar : Option Addr) (cr : Nat) (o : ByteArray) (b : UInt8) (v : Int) (hv : v = (b.toNat : Int))
    (hs : act.eval sl = .slice ar o.size cr) (happ : AppL EByte 1 5 W rlo ar cr (byteL o) []) (hlo : rlo ≤ W.heap.size) (g : Nat) (hg : g = W.heap.size) (hx : act.eval x = .slice (some ⟨g, 0, none⟩) 1 1) (hsz : o.size ≤ 1000000000)
    (h : ∀ ar2 cr2 w4, AppL EByte 1 5 w4 rlo ar2 cr2 (byteL (o ++ ⟨#[b]⟩)) [] → Below rlo W w4 → NB W w4 → wpList Tryz.prog ops Q rest (act.put op.dst (.slice ar2 (o ++ ⟨#[b]⟩).size cr2)) w4) :
    wpList Tryz.prog ops Q (op :: rest) act (W.alloc (.cells #[.int .u8 v] 5)) := by
  subst hv hg
  have hb := b.toNat_lt
  have h2 := below1 W (.cells #[.int .u8 (b.toNat : Int)] 5)
  have hA := happ.agree EByte.elem (fun f hf => h2.block f hf) hlo
  refine wpList_appX EByte.elem hgd sl x 22 ho (.int .u8 0) 1 Tryz.underlying22 info_Byte2 rfl rlo ar cr (byteL o) [] (by rw [byteL_len]; exact hs) hA (by simp; omega) W.heap.size 0 1 1 [(b.toNat : Int)] [] hx rfl (row1 (b.toNat : Int) ⟨by omega, by omega⟩) (by simp) (by omega) (by rw [byteL_len]; unfold maxLen; omega) (by rw [byteL_len]; omega) ?_
  intro ar2 cr2 w4 happ4 hb4 hout4 _ _
  have := h ar2 cr2 w4 (by rw [← byteL_snoc]; exact happ4) ((h2.mono hlo).trans hb4) ((NB.of h2).trans (hA.nb hout4) (by simp))
  rwa [byteL_snoc, byteL_len]
set_option maxHeartbeats 8000000 in
theorem impl_appendTree_leafText : ∀ t : T, ∀ (a : Option Addr) (cap B rlo : Nat) (ar : Option Addr) (cr : Nat) (o : ByteArray) (w : World), R w B a cap t.l → Wf t → T.sz t ≤ 1048576 → Env B w → B ≤ rlo → rlo ≤ w.heap.size → allB (fun t => decide (wrP t) && decide (t.k ≠ 4)) t = true →
    AppL EByte 1 5 w rlo ar cr (byteL o) [] → o.size + 300 * (1 + T.sz t) ≤ 1000000000 →
    Calls Tryz.prog 135 #[.slice ar o.size cr, .agg (cV t a cap), .func (.func 136) #[] #[]] w fun e w' => ∃ ar' cr', e = .returned (.slice ar' (o ++ writeT t).size cr') ∧ AppL EByte 1 5 w' rlo ar' cr' (byteL (o ++ writeT t)) [] ∧ Below rlo w w' ∧ NB w w' := by
  intro t
  induction t using T.ind with
  | h k n x s l ih =>
    intro a cap B rlo ar cr o w hr hwf hsz henv hBr hrl hall happ hoz
    have IH := Lib.hid ih; clear ih
    have hall0 := hall
    rw [allB_eq] at hall
    simp only [Bool.and_eq_true, List.all_eq_true, T.l, decide_eq_true_eq] at hall
    obtain ⟨hp, hch⟩ := hall
    have HCH := Lib.hid hch; clear hch
    have H0 := Lib.hid (below1 w (.cells (cV (.mk k n x s l) a cap) 26))
    have HA := Lib.hid happ; clear happ
    have hblen := byteL_len o
    have HL := Lib.hid (fun W (h1 : R W B a cap l) h2 h3 h9 h10 => impl_leafText (.mk k n x s l) a cap B W h1 hwf hsz h2 h3 hp.1 hp.2 h9 h10)
    have hp0 : wrP (.mk k n x s l) := hp.1
    clear hp
    obtain ⟨hk, hn, hx, hsm⟩ := hwf
    simp only [cV, T.k, T.n, T.x, T.s, T.l] at hr hk hn hx hsm HL H0 ⊢
    obtain ⟨hk0, hk1⟩ := hk
    rw [sz_of] at hsz hoz
    obtain ⟨hlc, hcap⟩ := hr.len
    have HR := Lib.hid hr; clear hr
    have HE := Lib.hid henv; clear henv
    clear hn hx hsm
    by_cases h9 : k = 9
    · subst h9
      clear HL hp0
      have HD := Lib.hid (show writeT (.mk 9 n x s l) = (⟨#[91]⟩ ++ writesT false 0 l) ++ ⟨#[93]⟩ from rfl)
      have HA1 := Lib.hid (HA.out.agree EByte.elem (fun f hf => H0.out.block f hf) hrl)
      have q0 := Is.new w #[Value.int IntKind.i64 9, Value.int IntKind.i64 n, Value.int IntKind.i64 x, Value.string s, Value.slice a l.length cap] 26
      go_enter Tryz.func135, Tryz.ntmps135
      go_wp2_with (at_builtin; refine wpList_byte (W := (w.alloc (Obj.cells #[Value.int IntKind.i64 9, Value.int IntKind.i64 n, Value.int IntKind.i64 x, Value.string s, Value.slice a l.length cap] 26))) (by rfl) _ _ (by rfl) rlo ar cr o 91 91 (by rfl) (by rfl) HA1.out (by simp; omega) (w.heap.size + 1) (by simp) (by rfl) (by omega) ?_; intro ar2 cr2 w4 happ4 hb4 hnb4; have q4 := hnb4.is q0 (by decide); obtain ⟨x0, x1, x2, x3, x4⟩ := q4.cells5)
      have HB4 := Lib.hid ((H0.out.mono hrl).trans hb4)
      have HN4 := Lib.hid ((NB.of H0.out).trans hnb4 (by simp))
      have HA4 := Lib.hid happ4
      have hs4 := HB4.out.size
      have hl4 := q4.lt
      have z1 : (⟨#[91]⟩ : ByteArray).size = 1 := rfl
      have z2 : (⟨#[93]⟩ : ByteArray).size = 1 := rfl
      clear hb4 hnb4 happ4 x0 x1 x2 x3 x4 HA1 q0
      go_loopw [0, 29, 9, 10] (fun q i _ _ wr => ∃ (j : Nat) (O : ByteArray) (ar : Option Addr) (cr : Nat), j ≤ l.length ∧ i = .int .i64 j ∧ q = .slice ar O.size cr ∧ Hid (O = (o ++ ⟨#[91]⟩) ++ writesT false 0 (l.take j)) ∧ O.size ≤ o.size + 1 + 300 * T.szL (l.take j) ∧ AppL EByte 1 5 wr rlo ar cr (byteL O) [] ∧ Below rlo w wr ∧ NB w4 wr ∧ w4.heap.size ≤ wr.heap.size) (fun _ i _ _ _ => l.length - (intOf i).toNat)
      case atStart => exact ⟨0, o ++ ⟨#[91]⟩, _, _, Nat.zero_le _, rfl, by simp [ByteArray.size_append, z1], by apply ByteArray.ext; simp [writesT, ByteArray.data_append], by rw [ByteArray.size_append]; omega, HA4.out, HB4.out, NB.refl _, Nat.le_refl _⟩
      case round =>
        obtain ⟨j, O, ar, cr, hj, rfl, rfl, HO, hos, happ, hb, hnb, hsw⟩ := hrel
        have hbs := hb.size
        have HA := Lib.hid happ; clear happ
        have HNB := Lib.hid hnb; clear hnb
        have HB := Lib.hid hb; clear hb
        have q5 := HNB.out.is q4 (by decide)
        obtain ⟨x0, x1, x2, x3, x4⟩ := q5.cells5
        have hl5 := q5.lt
        by_cases hlt : j < l.length
        · obtain ⟨b, o2, a2, cap2, rfl, hbl, d0, d1, d2, d3, d4, hwfj, hq⟩ := (HR.out.below HB.out hBr).get j hlt
          have hlb : b < wr.heap.size := by omega
          have hszj := T.sz_get l j hlt
          have htk := T.szL_take_succ l j hlt
          have htl := T.szL_take_le l (j + 1)
          have HWF := Lib.hid hwfj; clear hwfj
          have HQ := Lib.hid hq; clear hq
          have hws := writeT_size l[j] (allB_mono (fun _ h => by simp only [Bool.and_eq_true] at h; exact h.1) _ (HCH.out _ (List.getElem_mem hlt)))
          have HE1 := Lib.hid (writesT_succ false l 0 j hlt)
          rw [Nat.zero_add] at HE1
          have H1 := Lib.hid (below1 wr (.cells #[Value.int IntKind.i64 l[j].k, Value.int IntKind.i64 l[j].n, Value.int IntKind.i64 l[j].x, Value.string l[j].s, Value.slice a2 l[j].l.length cap2] 26))
          have hq1 := Is.new wr #[Value.int IntKind.i64 l[j].k, Value.int IntKind.i64 l[j].n, Value.int IntKind.i64 l[j].x, Value.string l[j].s, Value.slice a2 l[j].l.length cap2] 26
          have HA1 := Lib.hid (HA.out.agree EByte.elem (fun f hf => H1.out.block f hf) (by omega))
          have HBW := Lib.hid (HB.out.trans (H1.out.mono (by omega)))
          have hs1 : (wr.alloc (Obj.cells #[Value.int IntKind.i64 l[j].k, Value.int IntKind.i64 l[j].n, Value.int IntKind.i64 l[j].x, Value.string l[j].s, Value.slice a2 l[j].l.length cap2] 26)).heap.size = wr.heap.size + 1 := by simp
          by_cases hj0 : j = 0
          · subst hj0
            rw [Nat.zero_mul, Nat.add_zero] at d0 d1 d2 d3 d4
            go_wp2_with fail
            have HAX := Lib.hid HA1.out; have HBX := Lib.hid HBW.out; have HNX := Lib.hid (NB.of H1.out)
            obtain ⟨OX, hOX⟩ : ∃ OX : ByteArray, OX = O := ⟨O, rfl⟩
            have HOX := Lib.hid (show OX = O ++ sepT false 0 from by rw [hOX]; apply ByteArray.ext; simp [sepT, ByteArray.data_append])
            have hxs : OX.size ≤ O.size + 1 := by rw [hOX]; omega
            rw [← hOX] at HAX ⊢
            have HBZ := Lib.hid (H1.out.mono (show rlo ≤ wr.heap.size by omega))
            generalize hWX : (wr.alloc (Obj.cells #[Value.int IntKind.i64 l[0].k, Value.int IntKind.i64 l[0].n, Value.int IntKind.i64 l[0].x, Value.string l[0].s, Value.slice a2 l[0].l.length cap2] 26)) = WX at HAX HBX HBZ HNX hs1 ⊢
            have hsx : wr.heap.size + 1 ≤ WX.heap.size := by omega
            clear hOX hWX
            refine (IH.out l[0] (List.getElem_mem hlt) a2 cap2 B rlo _ _ OX _ (HQ.out.below HBZ.out hBr) HWF.out (by omega) (HE.out.step (HBX.out.mono hBr)) hBr (by omega) (HCH.out _ (List.getElem_mem hlt)) HAX.out (by omega)).mono ?_
            rintro e w7 ⟨ar7, cr7, rfl, happ7, hb7, hnb7⟩
            have hs7 := hb7.size
            have HOY := Lib.hid (show OX ++ writeT l[0] = (o ++ ⟨#[91]⟩) ++ writesT false 0 (l.take (0 + 1)) from by rw [HE1.out, HOX.out, HO.out]; simp only [ByteArray.append_assoc])
            go_wp2_with fail
            go_roundw
            case rel => exact ⟨0 + 1, OX ++ writeT l[0], ar7, cr7, by omega, by go_num, by first | rfl | simp [ByteArray.size_append], HOY.out, by rw [ByteArray.size_append]; omega, happ7, HBX.out.trans hb7, (HNB.out.trans HNX.out (by omega)).trans hnb7 (by omega), by omega⟩
            case measure => simp [intOf]; omega
          · have hsv := show sepT false j = ⟨#[44]⟩ from (if_neg hj0).trans (if_neg (by simp))
            have HSV := Lib.hid (show sepT false j = ⟨#[44]⟩ from hsv)
            go_wp2_with (at_builtin; refine wpList_byte (W := (wr.alloc (Obj.cells #[Value.int IntKind.i64 l[j].k, Value.int IntKind.i64 l[j].n, Value.int IntKind.i64 l[j].x, Value.string l[j].s, Value.slice a2 l[j].l.length cap2] 26))) (by rfl) _ _ (by rfl) rlo ar cr O 44 44 (by rfl) (by rfl) HA1.out (by omega) (wr.heap.size + 1) (by omega) (by rfl) (by omega) ?_; intro arX crX WX happX hbX hnbX; have qX := hnbX.is hq1 (by decide); obtain ⟨y0, y1, y2, y3, y4⟩ := qX.cells5; have hlX := qX.lt)
            have HAX := Lib.hid happX; have HBX := Lib.hid (HBW.out.trans hbX); have HNX := Lib.hid ((NB.of H1.out).trans hnbX (by omega))
            have HBZ := Lib.hid ((H1.out.mono (show rlo ≤ wr.heap.size by omega)).trans hbX)
            have hsx : wr.heap.size + 1 ≤ WX.heap.size := by have := hbX.size; omega
            clear happX hbX hnbX
            obtain ⟨OX, hOX⟩ : ∃ OX : ByteArray, OX = O ++ ⟨#[44]⟩ := ⟨_, rfl⟩
            have zX : (⟨#[44]⟩ : ByteArray).size = 1 := rfl
            have HOX := Lib.hid (show OX = O ++ sepT false j from by rw [hOX, HSV.out])
            have hxs : OX.size ≤ O.size + 1 := by rw [hOX, ByteArray.size_append]; omega
            have hxe : O.size + 1 = OX.size := by rw [hOX, ByteArray.size_append]; rfl
            rw [← hOX] at HAX
            rw [hxe]
            clear hOX hxe
            refine (IH.out l[j] (List.getElem_mem hlt) a2 cap2 B rlo _ _ OX _ (HQ.out.below HBZ.out hBr) HWF.out (by omega) (HE.out.step (HBX.out.mono hBr)) hBr (by omega) (HCH.out _ (List.getElem_mem hlt)) HAX.out (by omega)).mono ?_
            rintro e w7 ⟨ar7, cr7, rfl, happ7, hb7, hnb7⟩
            have hs7 := hb7.size
            have HOY := Lib.hid (show OX ++ writeT l[j] = (o ++ ⟨#[91]⟩) ++ writesT false 0 (l.take (j + 1)) from by rw [HE1.out, HOX.out, HO.out]; simp only [ByteArray.append_assoc])
            go_wp2_with fail
            go_roundw
            case rel => exact ⟨j + 1, OX ++ writeT l[j], ar7, cr7, by omega, by go_num, by first | rfl | simp [ByteArray.size_append], HOY.out, by rw [ByteArray.size_append]; omega, happ7, HBX.out.trans hb7, (HNB.out.trans HNX.out (by omega)).trans hnb7 (by omega), by omega⟩
            case measure => simp [intOf]; omega
        · have hjj : l.length = j := by omega
          have HJ := Lib.hid (show l.take j = l from by rw [← hjj, List.take_length]); clear hjj
          have htl := T.szL_take_le l j
          have HEN := Lib.hid (show O ++ ⟨#[93]⟩ = o ++ writeT (.mk 9 n x s l) from by rw [HD.out, HO.out, HJ.out]; simp only [ByteArray.append_assoc])
          go_wp2_with (at_builtin; refine wpList_byte (W := wr) (by rfl) _ _ (by rfl) rlo ar cr O 93 93 (by rfl) (by rfl) HA.out (by omega) wr.heap.size rfl (by rfl) (by omega) ?_; intro arX crX WX happX hbX hnbX)
          go_ret
          rw [← HEN.out]
          exact ⟨arX, crX, ret_slT (by rw [ByteArray.size_append]; rfl), happX, HB.out.trans hbX, (HN4.out.trans HNB.out (by omega)).trans hnbX (by omega)⟩
    · by_cases h10 : k = 10
      · subst h10
        clear HL hp0
        have HD := Lib.hid (show writeT (.mk 10 n x s l) = (⟨#[123]⟩ ++ writesT true 0 l) ++ ⟨#[125]⟩ from rfl)
        have HA1 := Lib.hid (HA.out.agree EByte.elem (fun f hf => H0.out.block f hf) hrl)
        have q0 := Is.new w #[Value.int IntKind.i64 10, Value.int IntKind.i64 n, Value.int IntKind.i64 x, Value.string s, Value.slice a l.length cap] 26
        go_enter Tryz.func135, Tryz.ntmps135
        go_wp2_with (at_builtin; refine wpList_byte (W := (w.alloc (Obj.cells #[Value.int IntKind.i64 10, Value.int IntKind.i64 n, Value.int IntKind.i64 x, Value.string s, Value.slice a l.length cap] 26))) (by rfl) _ _ (by rfl) rlo ar cr o 123 123 (by rfl) (by rfl) HA1.out (by simp; omega) (w.heap.size + 1) (by simp) (by rfl) (by omega) ?_; intro ar2 cr2 w4 happ4 hb4 hnb4; have q4 := hnb4.is q0 (by decide); obtain ⟨x0, x1, x2, x3, x4⟩ := q4.cells5)
        have HB4 := Lib.hid ((H0.out.mono hrl).trans hb4)
        have HN4 := Lib.hid ((NB.of H0.out).trans hnb4 (by simp))
        have HA4 := Lib.hid happ4
        have hs4 := HB4.out.size
        have hl4 := q4.lt
        have z1 : (⟨#[123]⟩ : ByteArray).size = 1 := rfl
        have z2 : (⟨#[125]⟩ : ByteArray).size = 1 := rfl
        clear hb4 hnb4 happ4 x0 x1 x2 x3 x4 HA1 q0
        go_loopw [0, 29, 9, 10] (fun q i _ _ wr => ∃ (j : Nat) (O : ByteArray) (ar : Option Addr) (cr : Nat), j ≤ l.length ∧ i = .int .i64 j ∧ q = .slice ar O.size cr ∧ Hid (O = (o ++ ⟨#[123]⟩) ++ writesT true 0 (l.take j)) ∧ O.size ≤ o.size + 1 + 300 * T.szL (l.take j) ∧ AppL EByte 1 5 wr rlo ar cr (byteL O) [] ∧ Below rlo w wr ∧ NB w4 wr ∧ w4.heap.size ≤ wr.heap.size) (fun _ i _ _ _ => l.length - (intOf i).toNat)
        case atStart => exact ⟨0, o ++ ⟨#[123]⟩, _, _, Nat.zero_le _, rfl, by simp [ByteArray.size_append, z1], by apply ByteArray.ext; simp [writesT, ByteArray.data_append], by rw [ByteArray.size_append]; omega, HA4.out, HB4.out, NB.refl _, Nat.le_refl _⟩
        case round =>
          obtain ⟨j, O, ar, cr, hj, rfl, rfl, HO, hos, happ, hb, hnb, hsw⟩ := hrel
          have hbs := hb.size
          have HA := Lib.hid happ; clear happ
          have HNB := Lib.hid hnb; clear hnb
          have HB := Lib.hid hb; clear hb
          have q5 := HNB.out.is q4 (by decide)
          obtain ⟨x0, x1, x2, x3, x4⟩ := q5.cells5
          have hl5 := q5.lt
          by_cases hlt : j < l.length
          · obtain ⟨b, o2, a2, cap2, rfl, hbl, d0, d1, d2, d3, d4, hwfj, hq⟩ := (HR.out.below HB.out hBr).get j hlt
            have hlb : b < wr.heap.size := by omega
            have hszj := T.sz_get l j hlt
            have htk := T.szL_take_succ l j hlt
            have htl := T.szL_take_le l (j + 1)
            have HWF := Lib.hid hwfj; clear hwfj
            have HQ := Lib.hid hq; clear hq
            have hws := writeT_size l[j] (allB_mono (fun _ h => by simp only [Bool.and_eq_true] at h; exact h.1) _ (HCH.out _ (List.getElem_mem hlt)))
            have HE1 := Lib.hid (writesT_succ true l 0 j hlt)
            rw [Nat.zero_add] at HE1
            have H1 := Lib.hid (below1 wr (.cells #[Value.int IntKind.i64 l[j].k, Value.int IntKind.i64 l[j].n, Value.int IntKind.i64 l[j].x, Value.string l[j].s, Value.slice a2 l[j].l.length cap2] 26))
            have hq1 := Is.new wr #[Value.int IntKind.i64 l[j].k, Value.int IntKind.i64 l[j].n, Value.int IntKind.i64 l[j].x, Value.string l[j].s, Value.slice a2 l[j].l.length cap2] 26
            have HA1 := Lib.hid (HA.out.agree EByte.elem (fun f hf => H1.out.block f hf) (by omega))
            have HBW := Lib.hid (HB.out.trans (H1.out.mono (by omega)))
            have hs1 : (wr.alloc (Obj.cells #[Value.int IntKind.i64 l[j].k, Value.int IntKind.i64 l[j].n, Value.int IntKind.i64 l[j].x, Value.string l[j].s, Value.slice a2 l[j].l.length cap2] 26)).heap.size = wr.heap.size + 1 := by simp
            by_cases hj0 : j = 0
            · subst hj0
              rw [Nat.zero_mul, Nat.add_zero] at d0 d1 d2 d3 d4
              go_wp2_with fail
              have HAX := Lib.hid HA1.out; have HBX := Lib.hid HBW.out; have HNX := Lib.hid (NB.of H1.out)
              obtain ⟨OX, hOX⟩ : ∃ OX : ByteArray, OX = O := ⟨O, rfl⟩
              have HOX := Lib.hid (show OX = O ++ sepT true 0 from by rw [hOX]; apply ByteArray.ext; simp [sepT, ByteArray.data_append])
              have hxs : OX.size ≤ O.size + 1 := by rw [hOX]; omega
              rw [← hOX] at HAX ⊢
              have HBZ := Lib.hid (H1.out.mono (show rlo ≤ wr.heap.size by omega))
              generalize hWX : (wr.alloc (Obj.cells #[Value.int IntKind.i64 l[0].k, Value.int IntKind.i64 l[0].n, Value.int IntKind.i64 l[0].x, Value.string l[0].s, Value.slice a2 l[0].l.length cap2] 26)) = WX at HAX HBX HBZ HNX hs1 ⊢
              have hsx : wr.heap.size + 1 ≤ WX.heap.size := by omega
              clear hOX hWX
              refine (IH.out l[0] (List.getElem_mem hlt) a2 cap2 B rlo _ _ OX _ (HQ.out.below HBZ.out hBr) HWF.out (by omega) (HE.out.step (HBX.out.mono hBr)) hBr (by omega) (HCH.out _ (List.getElem_mem hlt)) HAX.out (by omega)).mono ?_
              rintro e w7 ⟨ar7, cr7, rfl, happ7, hb7, hnb7⟩
              have hs7 := hb7.size
              have HOY := Lib.hid (show OX ++ writeT l[0] = (o ++ ⟨#[123]⟩) ++ writesT true 0 (l.take (0 + 1)) from by rw [HE1.out, HOX.out, HO.out]; simp only [ByteArray.append_assoc])
              go_wp2_with fail
              go_roundw
              case rel => exact ⟨0 + 1, OX ++ writeT l[0], ar7, cr7, by omega, by go_num, by first | rfl | simp [ByteArray.size_append], HOY.out, by rw [ByteArray.size_append]; omega, happ7, HBX.out.trans hb7, (HNB.out.trans HNX.out (by omega)).trans hnb7 (by omega), by omega⟩
              case measure => simp [intOf]; omega
            · by_cases hpar : j % 2 = 1
              · have hsv := show sepT true j = ⟨#[58]⟩ from (if_neg hj0).trans (if_pos ⟨rfl, hpar⟩)
                have HSV := Lib.hid (show sepT true j = ⟨#[58]⟩ from hsv)
                go_wp2_with (at_builtin; refine wpList_byte (W := (wr.alloc (Obj.cells #[Value.int IntKind.i64 l[j].k, Value.int IntKind.i64 l[j].n, Value.int IntKind.i64 l[j].x, Value.string l[j].s, Value.slice a2 l[j].l.length cap2] 26))) (by rfl) _ _ (by rfl) rlo ar cr O 58 58 (by rfl) (by rfl) HA1.out (by omega) (wr.heap.size + 1) (by omega) (by rfl) (by omega) ?_; intro arX crX WX happX hbX hnbX; have qX := hnbX.is hq1 (by decide); obtain ⟨y0, y1, y2, y3, y4⟩ := qX.cells5; have hlX := qX.lt)
                have HAX := Lib.hid happX; have HBX := Lib.hid (HBW.out.trans hbX); have HNX := Lib.hid ((NB.of H1.out).trans hnbX (by omega))
                have HBZ := Lib.hid ((H1.out.mono (show rlo ≤ wr.heap.size by omega)).trans hbX)
                have hsx : wr.heap.size + 1 ≤ WX.heap.size := by have := hbX.size; omega
                clear happX hbX hnbX
                obtain ⟨OX, hOX⟩ : ∃ OX : ByteArray, OX = O ++ ⟨#[58]⟩ := ⟨_, rfl⟩
                have zX : (⟨#[58]⟩ : ByteArray).size = 1 := rfl
                have HOX := Lib.hid (show OX = O ++ sepT true j from by rw [hOX, HSV.out])
                have hxs : OX.size ≤ O.size + 1 := by rw [hOX, ByteArray.size_append]; omega
                have hxe : O.size + 1 = OX.size := by rw [hOX, ByteArray.size_append]; rfl
                rw [← hOX] at HAX
                rw [hxe]
                clear hOX hxe
                refine (IH.out l[j] (List.getElem_mem hlt) a2 cap2 B rlo _ _ OX _ (HQ.out.below HBZ.out hBr) HWF.out (by omega) (HE.out.step (HBX.out.mono hBr)) hBr (by omega) (HCH.out _ (List.getElem_mem hlt)) HAX.out (by omega)).mono ?_
                rintro e w7 ⟨ar7, cr7, rfl, happ7, hb7, hnb7⟩
                have hs7 := hb7.size
                have HOY := Lib.hid (show OX ++ writeT l[j] = (o ++ ⟨#[123]⟩) ++ writesT true 0 (l.take (j + 1)) from by rw [HE1.out, HOX.out, HO.out]; simp only [ByteArray.append_assoc])
                go_wp2_with fail
                go_roundw
                case rel => exact ⟨j + 1, OX ++ writeT l[j], ar7, cr7, by omega, by go_num, by first | rfl | simp [ByteArray.size_append], HOY.out, by rw [ByteArray.size_append]; omega, happ7, HBX.out.trans hb7, (HNB.out.trans HNX.out (by omega)).trans hnb7 (by omega), by omega⟩
                case measure => simp [intOf]; omega
              · have hsv := show sepT true j = ⟨#[44]⟩ from (if_neg hj0).trans (if_neg (fun h => hpar h.2))
                have HSV := Lib.hid (show sepT true j = ⟨#[44]⟩ from hsv)
                go_wp2_with (at_builtin; refine wpList_byte (W := (wr.alloc (Obj.cells #[Value.int IntKind.i64 l[j].k, Value.int IntKind.i64 l[j].n, Value.int IntKind.i64 l[j].x, Value.string l[j].s, Value.slice a2 l[j].l.length cap2] 26))) (by rfl) _ _ (by rfl) rlo ar cr O 44 44 (by rfl) (by rfl) HA1.out (by omega) (wr.heap.size + 1) (by omega) (by rfl) (by omega) ?_; intro arX crX WX happX hbX hnbX; have qX := hnbX.is hq1 (by decide); obtain ⟨y0, y1, y2, y3, y4⟩ := qX.cells5; have hlX := qX.lt)
                have HAX := Lib.hid happX; have HBX := Lib.hid (HBW.out.trans hbX); have HNX := Lib.hid ((NB.of H1.out).trans hnbX (by omega))
                have HBZ := Lib.hid ((H1.out.mono (show rlo ≤ wr.heap.size by omega)).trans hbX)
                have hsx : wr.heap.size + 1 ≤ WX.heap.size := by have := hbX.size; omega
                clear happX hbX hnbX
                obtain ⟨OX, hOX⟩ : ∃ OX : ByteArray, OX = O ++ ⟨#[44]⟩ := ⟨_, rfl⟩
                have zX : (⟨#[44]⟩ : ByteArray).size = 1 := rfl
                have HOX := Lib.hid (show OX = O ++ sepT true j from by rw [hOX, HSV.out])
                have hxs : OX.size ≤ O.size + 1 := by rw [hOX, ByteArray.size_append]; omega
                have hxe : O.size + 1 = OX.size := by rw [hOX, ByteArray.size_append]; rfl
                rw [← hOX] at HAX
                rw [hxe]
                clear hOX hxe
                refine (IH.out l[j] (List.getElem_mem hlt) a2 cap2 B rlo _ _ OX _ (HQ.out.below HBZ.out hBr) HWF.out (by omega) (HE.out.step (HBX.out.mono hBr)) hBr (by omega) (HCH.out _ (List.getElem_mem hlt)) HAX.out (by omega)).mono ?_
                rintro e w7 ⟨ar7, cr7, rfl, happ7, hb7, hnb7⟩
                have hs7 := hb7.size
                have HOY := Lib.hid (show OX ++ writeT l[j] = (o ++ ⟨#[123]⟩) ++ writesT true 0 (l.take (j + 1)) from by rw [HE1.out, HOX.out, HO.out]; simp only [ByteArray.append_assoc])
                go_wp2_with fail
                go_roundw
                case rel => exact ⟨j + 1, OX ++ writeT l[j], ar7, cr7, by omega, by go_num, by first | rfl | simp [ByteArray.size_append], HOY.out, by rw [ByteArray.size_append]; omega, happ7, HBX.out.trans hb7, (HNB.out.trans HNX.out (by omega)).trans hnb7 (by omega), by omega⟩
                case measure => simp [intOf]; omega
          · have hjj : l.length = j := by omega
            have HJ := Lib.hid (show l.take j = l from by rw [← hjj, List.take_length]); clear hjj
            have htl := T.szL_take_le l j
            have HEN := Lib.hid (show O ++ ⟨#[125]⟩ = o ++ writeT (.mk 10 n x s l) from by rw [HD.out, HO.out, HJ.out]; simp only [ByteArray.append_assoc])
            go_wp2_with (at_builtin; refine wpList_byte (W := wr) (by rfl) _ _ (by rfl) rlo ar cr O 125 125 (by rfl) (by rfl) HA.out (by omega) wr.heap.size rfl (by rfl) (by omega) ?_; intro arX crX WX happX hbX hnbX)
            go_ret
            rw [← HEN.out]
            exact ⟨arX, crX, ret_slT (by rw [ByteArray.size_append]; rfl), happX, HB.out.trans hbX, (HN4.out.trans HNB.out (by omega)).trans hnbX (by omega)⟩
      · have HD := Lib.hid (show writeT (.mk k n x s l) = leafT k n x s from by rw [writeT, if_neg h9, if_neg h10])
        have hls := leafT_size (.mk k n x s l) hp0
        simp only [T.k, T.n, T.x, T.s] at hls
        have cC := HL.out _ (HR.out.below H0.out (by omega)) (HE.out.step (H0.out.mono (by omega))) (by simp; omega) h9 h10
        clear HL hp0
        rw [HD.out]
        have HA1 := Lib.hid (HA.out.agree EByte.elem (fun f hf => H0.out.block f hf) hrl)
        go_enter Tryz.func135, Tryz.ntmps135
        go_wp2_with fail
        refine cC.mono ?_
        rintro e w2 ⟨rfl, hb2⟩
        have HA2 := Lib.hid (HA1.out.agree EByte.elem (fun f hf => hb2.block f hf) (by simp; omega))
        have HB2 := Lib.hid (below_step H0.out hb2 (by simp))
        have hs2 := hb2.size
        simp only [size_alloc] at hs2
        clear hb2 HA1
        generalize hLL : leafT k n x s = L at hls ⊢
        have HLL := Lib.hid hLL; clear hLL cC
        go_wp2_with (at_builtin; refine wpList_appStr rfl _ _ 22 9 rfl Tryz.underlying22 Tryz.underlying9 info_Byte2 rlo ar cr (byteL o) (byteL_u8 o) (by first | rfl | (rw [hblen]; rfl)) HA2.out (by omega) L rfl (by rw [hblen]; omega) ?_; intro ar2 cr2 w6 happ6 hb6 hout6 hsz6)
        go_ret
        exact ⟨ar2, cr2, ret_slT (by rw [HLL.out, ByteArray.size_append]; simp [byteL_len]), by rw [HLL.out, byteL_append]; exact happ6, (HB2.out.mono hrl).trans hb6, (NB.of HB2.out).trans (HA2.out.nb hout6) (by omega)⟩
end Go.Proofs.YtggdenkmohnijaaGreatDoor
