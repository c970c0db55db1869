/- Texts of this proof, merged: NamesT2, FitsP, PText, Esc. No condition beyond what each theorem states. -/
import Derived.Test.YtggdenkmohnijaaGreatDoorZN11
import Derived.Test.YtggdenkmohnijaaGreatDoorZN17
set_option linter.unusedSimpArgs false
set_option linter.unnecessarySimpa false
namespace Go.Proofs.YtggdenkmohnijaaGreatDoor
open Go.ChangeShapes Go.WideShapes Go.ChangeAt Go.RowKit Go.Joins
set_option linter.unusedVariables false
set_option maxRecDepth 100000
set_option maxHeartbeats 1000000 in
theorem impl_OnceEach (t : T) (a : Option Addr) (cap B : Nat) (w : World) (hr : R w B a cap t.l) (hB : B ≤ w.heap.size) (hlc : t.l.length ≤ 1073741824) :
    Calls Tryz.prog 147 #[.agg (cV t a cap)] w fun e w' => e = .returned (.bool (onceB t)) ∧ Below w.heap.size w w' := by
  have hmf : ∀ (fn : Fn) (first cap : Array Value) (w : World), (Instr.makeFunc fn first cap).run Tryz.prog w = .ok (.func fn first cap) w := fun _ _ _ _ => rfl
  obtain ⟨ns, hns⟩ : ∃ ns, namesT t = ns := ⟨_, rfl⟩
  have HNS := Lib.hid hns; clear hns
  have HR := Lib.hid hr; clear hr
  go_enter Tryz.func147, Tryz.ntmps147
  go_wp2_with fail
  refine (impl_names t a cap B _ (HR.out.below (below1 _ _) hB) (by simp; omega) hlc).mono ?_
  rintro e w1 ⟨a1, c1, rfl, hr1, hb1⟩
  rw [HNS.out] at hr1 ⊢
  have HB1 := Lib.hid (below_step (below1 w _) hb1 (by simp)); clear hb1
  have hs1 := HB1.out.size
  obtain ⟨hn1, hn2⟩ := hr1.len
  have HR1 := Lib.hid hr1; clear hr1
  have HOB := Lib.hid (show onceB t = onceN ns ns.length from by unfold onceB; rw [HNS.out])
  go_wp2_with fail
  go_loopw [10, 4, 5] (fun iv _ _ wr => ∃ (j : Nat), j ≤ ns.length ∧ iv = .int .i64 j ∧ Hid (onceN ns j = true) ∧ Below w1.heap.size w1 wr) (fun iv _ _ _ => ns.length - (intOf iv).toNat)
  case atStart => exact ⟨0, Nat.zero_le _, rfl, rfl, Below.refl _ _⟩
  case round =>
    obtain ⟨j, hj, rfl, HJ, hb⟩ := hrel
    have hbs := hb.size
    by_cases hlt : j < ns.length
    · obtain ⟨b, o, a2, cap2, rfl, hbl, d0, d1, d2, d3, d4, hwf, hq⟩ := (HR1.out.below hb (Nat.le_refl _)).get j hlt
      have hlb : b < wr.heap.size := by omega
      have H5 := Lib.hid (below1 wr (.cells (cV ns[j] a2 cap2) 26))
      have q5 := Is.new wr (cV ns[j] a2 cap2) 26
      have HQ := Lib.hid hq; clear hq
      have HTk := Lib.hid ((HR1.out.below hb (Nat.le_refl _)).take j)
      have htl : (ns.take j).length = j := by rw [List.length_take]; omega
      have HS := Lib.hid (onceN_succ ns j hlt)
      have hjc : j ≤ c1 := by omega
      go_wp2_with fail
      have hs5 : (wr.alloc (.cells (cV ns[j] a2 cap2) 26)).heap.size = wr.heap.size + 1 := by simp
      generalize wr.alloc (.cells (cV ns[j] a2 cap2) 26) = W5 at *
      have H1 : ∀ u ∈ ns.take j, ∀ (a : Option Addr) (cap : Nat) (w' : World), Below W5.heap.size W5 w' → R w' w1.heap.size a cap u.l → Wf u → Calls Tryz.prog 214 #[.agg (cV u a cap), .pointer (some ⟨wr.heap.size, 0, none⟩)] w' fun e v => e = .returned (.bool (sameT u ns[j])) ∧ Below w'.heap.size w' v := by
        intro u hu a3 cap3 w' hb3 hr3 hwf3
        have hs3 := hb3.size
        have t2 := q5.below hb3 (by omega)
        obtain ⟨c0, c1', c2, c3, c4⟩ := t2.cells5
        have l2 : wr.heap.size < w'.heap.size := by omega
        have HQ3 := Lib.hid (HQ.out.below (H5.out.trans (hb3.mono (by omega))) (by omega))
        have HR3 := Lib.hid hr3; clear hr3 hwf3 hu hb3 d0 d1 d2 d3 d4 q5
        go_enter Tryz.func214, Tryz.ntmps214
        go_wp2_with fail
        refine (impl_SameVal u ns[j] a3 a2 cap3 cap2 w1.heap.size _ (HR3.out.below (below1 _ _) (by omega)) (HQ3.out.below (below1 _ _) (by omega)) (by simp; omega)).mono ?_
        rintro e w5 ⟨rfl, hb5⟩
        go_wp2_with fail
        go_ret
        exact ⟨rfl, below_step (below1 _ _) hb5 (by simp)⟩
      have cC := has_OnceEach_1 (fun u => sameT u ns[j]) wr.heap.size (ns.take j) (some ⟨b, o, none⟩) c1 w1.heap.size W5 (HTk.out.below H5.out (by omega)) (by omega) H1
      rw [htl] at cC
      have CC := Lib.hid cC; clear cC H1
      cases hv : (ns.take j).any fun u => sameT u ns[j] with
      | true =>
        have HD := Lib.hid (show onceB t = false from HOB.out.trans (onceN_false ns (j + 1) _ (by omega) (by rw [HS.out, hv, HJ.out]; rfl)))
        rw [hv] at CC
        clear hv
        first | (refine CC.out.mono ?_) | (go_wp2_with fail; refine CC.out.mono ?_)
        rintro e w6 ⟨rfl, hb6⟩
        go_wp2_with fail
        go_ret
        exact ⟨ret_b (by rw [HD.out]), (HB1.out.trans (hb.mono (by omega))).trans ((H5.out.trans (hb6.mono (by omega))).mono (by omega))⟩
      | false =>
        have HD := Lib.hid (show onceN ns (j + 1) = true from by rw [HS.out, hv, HJ.out]; rfl)
        rw [hv] at CC
        clear hv
        first | (refine CC.out.mono ?_) | (go_wp2_with fail; refine CC.out.mono ?_)
        rintro e w6 ⟨rfl, hb6⟩
        go_wp2_with fail
        go_roundw
        case rel => exact ⟨j + 1, by omega, by go_num, HD.out, hb.trans ((H5.out.trans (hb6.mono (by omega))).mono hbs)⟩
        case measure => simp [intOf]; omega
    · have hjj : ns.length = j := by omega
      have HD := Lib.hid (show onceB t = true from by rw [HOB.out, hjj]; exact HJ.out); clear hjj
      go_wp2_with fail
      go_ret
      exact ⟨ret_b (by rw [HD.out]), HB1.out.trans (hb.mono (by omega))⟩
set_option maxHeartbeats 1000000 in
theorem impl_textNames (t : T) (a : Option Addr) (cap B : Nat) (w : World) (hr : R w B a cap t.l) (hB : B ≤ w.heap.size) (hlc : t.l.length ≤ 1073741824) :
    Calls Tryz.prog 194 #[.agg (cV t a cap)] w fun e w' => e = .returned (.bool (textNm t)) ∧ Below w.heap.size w w' := by
  have HR := Lib.hid hr; clear hr
  have H0 := Lib.hid (below1 w (.cells (cV t a cap) 26))
  have q0 := Is.new w (cV t a cap) 26
  go_enter Tryz.func194, Tryz.ntmps194
  go_wp2_with fail
  refine (impl_OnceEach t a cap B _ (HR.out.below H0.out hB) (by simp; omega) hlc).mono ?_
  rintro e w1 ⟨rfl, hb1⟩
  have HB1 := Lib.hid (below_step H0.out hb1 (by simp))
  have p1 := q0.below hb1 (by simp)
  obtain ⟨r0, r1, r2, r3, r4⟩ := p1.cells5
  have l1 : w.heap.size < w1.heap.size := by have := hb1.size; simp at this; omega
  clear hb1
  cases hv : onceB t with
  | false =>
    have HD := Lib.hid (show textNm t = false from by unfold textNm; rw [hv]; rfl); clear hv
    go_wp2_with fail
    go_ret
    exact ⟨ret_b (by rw [HD.out]), HB1.out⟩
  | true =>
    have HD := Lib.hid (show textNm t = !((namesT t).any fun x => !decide (x.k = 7)) from by unfold textNm; rw [hv, Bool.true_and]; exact (any_not_all _ _).symm); clear hv
    go_wp2_with fail
    refine (impl_names t a cap B _ (HR.out.below HB1.out hB) (by omega) hlc).mono ?_
    rintro e w2 ⟨a2, c2, rfl, hr2, hb2⟩
    have H1 : ∀ u ∈ namesT t, ∀ (a : Option Addr) (cap : Nat) (w' : World), Below w2.heap.size w2 w' → R w' w2.heap.size a cap u.l → Wf u → Calls Tryz.prog 239 #[.agg (cV u a cap)] w' fun e v => e = .returned (.bool (!decide (u.k = 7))) ∧ Below w'.heap.size w' v := by
      intro u hu a3 cap3 w' hb3 hr3 hwf3
      clear hr3 hwf3 hu hb3 r0 r1 r2 r3 r4
      by_cases h7 : u.k = 7
      · have h7' : (u.k != 7) = false := by simp [h7]
        rw [decide_eq_true h7]; clear h7
        go_enter Tryz.func239, Tryz.ntmps239
        go_wp2_with fail
        go_ret
        exact ⟨ret_b (by first | rfl | exact h7'), below1 _ _⟩
      · have h7' : (u.k != 7) = true := by simp [h7]
        rw [decide_eq_false h7]; clear h7
        go_enter Tryz.func239, Tryz.ntmps239
        go_wp2_with fail
        go_ret
        exact ⟨ret_b (by first | rfl | exact h7'), below1 _ _⟩
    have cC := has_textNames_1 (fun x => !decide (x.k = 7)) (namesT t) a2 c2 w2.heap.size w2 hr2 (Nat.le_refl _) H1
    have CC := Lib.hid cC; clear cC H1 hr2
    generalize ((namesT t).any fun x => !decide (x.k = 7)) = r at *
    go_wp2_with fail
    refine CC.out.mono ?_
    rintro e w3 ⟨rfl, hb3⟩
    go_wp2_with fail
    go_ret
    exact ⟨ret_b (by rw [HD.out]), HB1.out.trans ((hb2.trans (hb3.mono hb2.size)).mono (by omega))⟩
theorem numT_size {n : Int} (h : I64 n) : (numT n).size ≤ 21 := by
  have := Lib.itoa_length_le n h.1 h.2
  unfold numT
  simpa [ByteArray.size] using this
def escT (n : Int) : ByteArray :=
  if ¬ runeOk n then ⟨#[]⟩ else if n = 34 then ⟨#[92, 34]⟩ else if n = 92 then ⟨#[92, 92]⟩ else if n = 8 then ⟨#[92, 98]⟩ else if n = 9 then ⟨#[92, 116]⟩ else if n = 10 then ⟨#[92, 110]⟩ else if n = 12 then ⟨#[92, 102]⟩ else if n = 13 then ⟨#[92, 114]⟩ else if n < 32 then ⟨#[92, 117, 48, 48]⟩ ++ hexT (Utf8.encode n) else Utf8.encode n
theorem escT_no (n : Int) (h : ¬ runeOk n) : escT n = ⟨#[]⟩ := if_pos h
theorem escT_34 : escT 34 = ⟨#[92, 34]⟩ := rfl
theorem escT_92 : escT 92 = ⟨#[92, 92]⟩ := rfl
theorem escT_8 : escT 8 = ⟨#[92, 98]⟩ := rfl
theorem escT_9 : escT 9 = ⟨#[92, 116]⟩ := rfl
theorem escT_10 : escT 10 = ⟨#[92, 110]⟩ := rfl
theorem escT_12 : escT 12 = ⟨#[92, 102]⟩ := rfl
theorem escT_13 : escT 13 = ⟨#[92, 114]⟩ := rfl
theorem escT_low (n : Int) (h : runeOk n) (hn : n ≠ 34 ∧ n ≠ 92 ∧ n ≠ 8 ∧ n ≠ 9 ∧ n ≠ 10 ∧ n ≠ 12 ∧ n ≠ 13) (h2 : n < 32) : escT n = ⟨#[92, 117, 48, 48]⟩ ++ hexT (Utf8.encode n) := by
  unfold escT; rw [if_neg (by simp [h]), if_neg hn.1, if_neg hn.2.1, if_neg hn.2.2.1, if_neg hn.2.2.2.1, if_neg hn.2.2.2.2.1, if_neg hn.2.2.2.2.2.1, if_neg hn.2.2.2.2.2.2, if_pos h2]
theorem escT_high (n : Int) (h : runeOk n) (hn : n ≠ 34 ∧ n ≠ 92 ∧ n ≠ 8 ∧ n ≠ 9 ∧ n ≠ 10 ∧ n ≠ 12 ∧ n ≠ 13) (h2 : ¬ n < 32) : escT n = Utf8.encode n := by
  unfold escT; rw [if_neg (by simp [h]), if_neg hn.1, if_neg hn.2.1, if_neg hn.2.2.1, if_neg hn.2.2.2.1, if_neg hn.2.2.2.2.1, if_neg hn.2.2.2.2.2.1, if_neg hn.2.2.2.2.2.2, if_neg h2]
theorem enc_low (n : Int) (h0 : 0 ≤ n) (h : n < 128) : strOfNums [n] = Utf8.encode n := by
  have := encN_str n ⟨⟨h0, by omega⟩, by omega⟩
  unfold encN at this; rw [if_pos h] at this; exact this
theorem enc_size (n : Int) : (Utf8.encode n).size ≤ 4 := by
  unfold Utf8.encode; simp only []; repeat' split
  all_goals first | decide | (simp [ByteArray.size])
theorem hexT_size (s : ByteArray) : (hexT s).size = 2 * s.size := by
  unfold hexT; rw [strOfNums_size, hexL_len, ← Lib.size_eq]
theorem esc_index : ∀ k : Fin 32, Lib.indexByte [8, 9, 10, 12, 13] (k.val.toUInt8) = if k.val = 8 then 0 else if k.val = 9 then 1 else if k.val = 10 then 2 else if k.val = 12 then 3 else if k.val = 13 then 4 else -1 := by decide
theorem impl_RuneOk (n : Int) (w : World) : Calls Tryz.prog 262 #[.int .i64 n] w fun e w' => e = .returned (.bool (decide (runeOk n))) ∧ Below w.heap.size w w' := by
  have hacc := Below.refl w.heap.size w
  by_cases h1 : 0 ≤ n ∧ n ≤ 1114111
  · have HA := Lib.hid (show decide (0 ≤ n ∧ n ≤ 1114111) = true from decide_eq_true h1)
    by_cases h2 : 55296 ≤ n ∧ n ≤ 57343
    · have HD := Lib.hid (show decide (runeOk n) = false from decide_eq_false (fun h => h.2 h2))
      have HB := Lib.hid (show decide (55296 ≤ n ∧ n ≤ 57343) = true from decide_eq_true h2)
      rw [HD.out]
      go_enter Tryz.func262, Tryz.ntmps262
      go_wp2_with (go_at_call 125; refine (impl_within _ _ _ _).mono ?_; rintro e v ⟨rfl, hb⟩; replace hacc := below_step hacc hb hacc.size; first | rw [HA.out] | rw [HB.out])
      go_ret
      exact ⟨rfl, hacc⟩
    · have HD := Lib.hid (show decide (runeOk n) = true from decide_eq_true ⟨h1, h2⟩)
      have HB := Lib.hid (show decide (55296 ≤ n ∧ n ≤ 57343) = false from decide_eq_false h2)
      rw [HD.out]
      go_enter Tryz.func262, Tryz.ntmps262
      go_wp2_with (go_at_call 125; refine (impl_within _ _ _ _).mono ?_; rintro e v ⟨rfl, hb⟩; replace hacc := below_step hacc hb hacc.size; first | rw [HA.out] | rw [HB.out])
      go_ret
      exact ⟨rfl, hacc⟩
  · have HD := Lib.hid (show decide (runeOk n) = false from decide_eq_false (fun h => h1 h.1))
    have HA := Lib.hid (show decide (0 ≤ n ∧ n ≤ 1114111) = false from decide_eq_false h1)
    rw [HD.out]
    go_enter Tryz.func262, Tryz.ntmps262
    go_wp2_with (go_at_call 125; refine (impl_within _ _ _ _).mono ?_; rintro e v ⟨rfl, hb⟩; replace hacc := below_step hacc hb hacc.size; first | rw [HA.out])
    go_ret
    exact ⟨rfl, hacc⟩
set_option maxHeartbeats 4000000 in
theorem spec_EscapeOf (n : Int) (w : World) (hi : I64 n) : Calls Tryz.prog 208 #[.int .i64 n] w fun e w' => e = .returned (.string (escT n)) ∧ Below w.heap.size w w' := by
  obtain ⟨hi0, hi1⟩ := hi
  by_cases hr : runeOk n
  · have HR := Lib.hid (show decide (runeOk n) = true from decide_eq_true hr)
    obtain ⟨hr0, hr1⟩ := hr.1
    by_cases hsp : n = 34 ∨ n = 92 ∨ n = 8 ∨ n = 9 ∨ n = 10 ∨ n = 12 ∨ n = 13
    · obtain rfl | rfl | rfl | rfl | rfl | rfl | rfl := hsp
      all_goals
        go_enter Tryz.func208, Tryz.ntmps208
        go_wp2_with (go_at_call 248; refine (spec_RuneOk _ _).mono ?_; rintro e w2 ⟨rfl, hb2⟩; rw [HR.out])
        go_ret
        exact ⟨rfl, hb2⟩
    · have hn : n ≠ 34 ∧ n ≠ 92 ∧ n ≠ 8 ∧ n ≠ 9 ∧ n ≠ 10 ∧ n ≠ 12 ∧ n ≠ 13 := by omega
      by_cases h32 : n < 32
      · have HE := Lib.hid (escT_low n hr hn h32)
        have HL := Lib.hid (enc_low n hr0 (by omega))
        have hz := hexT_size (Utf8.encode n)
        have hz2 := enc_size n
        have hz3 : (⟨#[92, 117, 48, 48]⟩ : ByteArray).size = 4 := rfl
        clear hr hsp
        go_enter Tryz.func208, Tryz.ntmps208
        go_wp2_with fail
        refine (spec_RuneOk _ _).mono ?_
        rintro e w2 ⟨rfl, hb2⟩
        rw [HR.out]
        have hcv := run_convert_bytes_arg (P := Tryz.prog) (w2.alloc (.cells #[.int .u8 n] 5)) 22 5 Tryz.underlying22 Tryz.underlying5 w2.heap.size 0 1 1 [n] rfl (by intro i hi; (obtain rfl : i = 0 := (by omega)); exact (Is.new w2 _ _).cell 0 rfl) 9 Tryz.underlying9
        rw [HL.out] at hcv
        have HB3 := Lib.hid (hb2.trans ((below1 w2 (.cells #[.int .u8 n] 5)).mono hb2.size))
        clear hb2
        go_wp2_with fail
        refine (spec_HexText _ _ (by omega)).mono ?_
        rintro e w3 ⟨rfl, hb3⟩
        go_wp2_with fail
        go_ret
        exact ⟨ret_s HE.out.symm, HB3.out.trans (hb3.mono HB3.out.size)⟩
      · have HE := Lib.hid (escT_high n hr hn h32)
        have HRO := Lib.hid hr
        clear hr hsp
        go_enter Tryz.func208, Tryz.ntmps208
        go_wp2_with fail
        refine (spec_RuneOk _ _).mono ?_
        rintro e w2 ⟨rfl, hb2⟩
        rw [HR.out]
        have hc0 := (Is.new w2 #[.int .i64 n] 3).cell 0 rfl
        have HB3 := Lib.hid (hb2.trans ((below1 w2 (.cells #[.int .i64 n] 3)).mono hb2.size))
        have HC := Lib.hid hc0
        clear hb2 hc0
        go_wp2_with fail
        refine (spec_FromRune n w2.heap.size 1 _ HRO.out (by omega) (by omega) (by simp) HC.out).mono ?_
        rintro e w3 ⟨rfl, hb3⟩
        go_wp2_with fail
        go_ret
        exact ⟨ret_s HE.out.symm, HB3.out.trans (hb3.mono HB3.out.size)⟩
  · have HR := Lib.hid (show decide (runeOk n) = false from decide_eq_false hr)
    have HE := Lib.hid (escT_no n hr)
    clear hr
    go_enter Tryz.func208, Tryz.ntmps208
    go_wp2_with (go_at_call 248; refine (spec_RuneOk _ _).mono ?_; rintro e w2 ⟨rfl, hb2⟩; rw [HR.out])
    go_ret
    exact ⟨ret_s HE.out.symm, hb2⟩
set_option maxHeartbeats 8000000 in
theorem impl_EscapeOf (n : Int) (w : World) (hi : I64 n) : Calls Tryz.prog 242 #[.int .i64 n] w fun e w' => e = .returned (.string (escT n)) ∧ Below w.heap.size w w' := by
  obtain ⟨hi0, hi1⟩ := hi
  by_cases hr : runeOk n
  · have HR := Lib.hid (show decide (runeOk n) = true from decide_eq_true hr)
    obtain ⟨hr0, hr1⟩ := hr.1
    by_cases hq : n = 34 ∨ n = 92
    · obtain rfl | rfl := hq
      all_goals
        go_enter Tryz.func242, Tryz.ntmps242
        go_wp2_with (go_at_call 262; refine (impl_RuneOk _ _).mono ?_; rintro e w2 ⟨rfl, hb2⟩; rw [HR.out])
        go_ret
        exact ⟨rfl, hb2⟩
    by_cases h32 : n < 32
    · have HI0 := esc_index ⟨n.toNat, by omega⟩
      simp only at HI0
      by_cases hsp : n = 8 ∨ n = 9 ∨ n = 10 ∨ n = 12 ∨ n = 13
      · obtain rfl | rfl | rfl | rfl | rfl := hsp
        · have HI := Lib.hid (show Lib.indexByte (⟨#[8, 9, 10, 12, 13]⟩ : ByteArray).data.toList ((8 : Int).toNat.toUInt8) = 0 from by rfl)
          clear HI0
          go_enter Tryz.func242, Tryz.ntmps242
          go_wp2_with (first | (go_at_call 262; refine (impl_RuneOk _ _).mono ?_; rintro e w2 ⟨rfl, hb2⟩; rw [HR.out]) | (go_at_call 263; refine (Tryz.strings_IndexByte _ _ _).mono ?_; rintro e w4 ⟨rfl, rfl⟩; rw [HI.out]))
          go_ret
          exact ⟨rfl, hb2⟩
        · have HI := Lib.hid (show Lib.indexByte (⟨#[8, 9, 10, 12, 13]⟩ : ByteArray).data.toList ((9 : Int).toNat.toUInt8) = 1 from by rfl)
          clear HI0
          go_enter Tryz.func242, Tryz.ntmps242
          go_wp2_with (first | (go_at_call 262; refine (impl_RuneOk _ _).mono ?_; rintro e w2 ⟨rfl, hb2⟩; rw [HR.out]) | (go_at_call 263; refine (Tryz.strings_IndexByte _ _ _).mono ?_; rintro e w4 ⟨rfl, rfl⟩; rw [HI.out]))
          go_ret
          exact ⟨rfl, hb2⟩
        · have HI := Lib.hid (show Lib.indexByte (⟨#[8, 9, 10, 12, 13]⟩ : ByteArray).data.toList ((10 : Int).toNat.toUInt8) = 2 from by rfl)
          clear HI0
          go_enter Tryz.func242, Tryz.ntmps242
          go_wp2_with (first | (go_at_call 262; refine (impl_RuneOk _ _).mono ?_; rintro e w2 ⟨rfl, hb2⟩; rw [HR.out]) | (go_at_call 263; refine (Tryz.strings_IndexByte _ _ _).mono ?_; rintro e w4 ⟨rfl, rfl⟩; rw [HI.out]))
          go_ret
          exact ⟨rfl, hb2⟩
        · have HI := Lib.hid (show Lib.indexByte (⟨#[8, 9, 10, 12, 13]⟩ : ByteArray).data.toList ((12 : Int).toNat.toUInt8) = 3 from by rfl)
          clear HI0
          go_enter Tryz.func242, Tryz.ntmps242
          go_wp2_with (first | (go_at_call 262; refine (impl_RuneOk _ _).mono ?_; rintro e w2 ⟨rfl, hb2⟩; rw [HR.out]) | (go_at_call 263; refine (Tryz.strings_IndexByte _ _ _).mono ?_; rintro e w4 ⟨rfl, rfl⟩; rw [HI.out]))
          go_ret
          exact ⟨rfl, hb2⟩
        · have HI := Lib.hid (show Lib.indexByte (⟨#[8, 9, 10, 12, 13]⟩ : ByteArray).data.toList ((13 : Int).toNat.toUInt8) = 4 from by rfl)
          clear HI0
          go_enter Tryz.func242, Tryz.ntmps242
          go_wp2_with (first | (go_at_call 262; refine (impl_RuneOk _ _).mono ?_; rintro e w2 ⟨rfl, hb2⟩; rw [HR.out]) | (go_at_call 263; refine (Tryz.strings_IndexByte _ _ _).mono ?_; rintro e w4 ⟨rfl, rfl⟩; rw [HI.out]))
          go_ret
          exact ⟨rfl, hb2⟩
      · have hn : n ≠ 34 ∧ n ≠ 92 ∧ n ≠ 8 ∧ n ≠ 9 ∧ n ≠ 10 ∧ n ≠ 12 ∧ n ≠ 13 := by omega
        have HE := Lib.hid (escT_low n hr hn h32)
        have HI := Lib.hid (show Lib.indexByte (⟨#[8, 9, 10, 12, 13]⟩ : ByteArray).data.toList (n.toNat.toUInt8) = -1 from by
          refine HI0.trans ?_
          rw [if_neg (by omega), if_neg (by omega), if_neg (by omega), if_neg (by omega), if_neg (by omega)])
        have hz := hexT_size (Utf8.encode n)
        have hz2 := enc_size n
        have hz3 : (⟨#[92, 117, 48, 48]⟩ : ByteArray).size = 4 := rfl
        have e34 : (n == 34) = false := beq_eq_false_iff_ne.2 hn.1
        have e92 : (n == 92) = false := beq_eq_false_iff_ne.2 hn.2.1
        clear hr hsp HI0 hq
        go_enter Tryz.func242, Tryz.ntmps242
        go_wp2_with (first | (go_at_call 262; refine (impl_RuneOk _ _).mono ?_; rintro e w2 ⟨rfl, hb2⟩; rw [HR.out]) | (go_at_call 263; refine (Tryz.strings_IndexByte _ _ _).mono ?_; rintro e w4 ⟨rfl, rfl⟩; rw [HI.out]))
        refine (impl_HexText _ _ (by omega)).mono ?_
        rintro e w3 ⟨rfl, hb3⟩
        go_wp2_with fail
        go_ret
        exact ⟨ret_s HE.out.symm, hb2.trans (hb3.mono hb2.size)⟩
    · have hn : n ≠ 34 ∧ n ≠ 92 ∧ n ≠ 8 ∧ n ≠ 9 ∧ n ≠ 10 ∧ n ≠ 12 ∧ n ≠ 13 := by omega
      have HE := Lib.hid (escT_high n hr hn h32)
      have e34 : (n == 34) = false := beq_eq_false_iff_ne.2 hn.1
      have e92 : (n == 92) = false := beq_eq_false_iff_ne.2 hn.2.1
      clear hr hq
      go_enter Tryz.func242, Tryz.ntmps242
      go_wp2_with (go_at_call 262; refine (impl_RuneOk _ _).mono ?_; rintro e w2 ⟨rfl, hb2⟩; rw [HR.out])
      go_ret
      exact ⟨ret_s HE.out.symm, hb2⟩
  · have HR := Lib.hid (show decide (runeOk n) = false from decide_eq_false hr)
    have HE := Lib.hid (escT_no n hr)
    clear hr
    go_enter Tryz.func242, Tryz.ntmps242
    go_wp2_with (go_at_call 262; refine (impl_RuneOk _ _).mono ?_; rintro e w2 ⟨rfl, hb2⟩; rw [HR.out])
    go_ret
    exact ⟨ret_s HE.out.symm, hb2⟩
end Go.Proofs.YtggdenkmohnijaaGreatDoor
