/- Texts of this proof, merged: PkP, RdP, WriL, WriS. No condition beyond what each theorem states. -/
import Derived.Test.YtggdenkmohnijaaGreatDoorZN28
import Derived.Test.YtggdenkmohnijaaGreatDoorZN31
set_option linter.unusedSimpArgs false
set_option linter.unnecessarySimpa false
namespace Go.Proofs.YtggdenkmohnijaaGreatDoor
open Go.ChangeShapes Go.WideShapes Go.ChangeAt Go.RowKit Go.Joins
set_option linter.unusedVariables false
set_option maxRecDepth 100000
theorem bytes_nil {s : ByteArray} (h : s.toList = []) : s = ⟨#[]⟩ := by
  have h2 : s.data.toList = [] := by rw [← Lib.toList_data]; exact h
  apply ByteArray.ext
  exact Array.toList_inj.1 (by simpa using h2)
def Asc (b : ByteArray) : Prop := ∀ x ∈ b.data.toList, x.toNat < 128
theorem Asc.app {a b : ByteArray} (ha : Asc a) (hb : Asc b) : Asc (a ++ b) := by
  intro x hx
  rw [ByteArray.data_append, Array.toList_append] at hx
  rcases List.mem_append.1 hx with h | h
  · exact ha x h
  · exact hb x h
theorem Asc.ext {a : ByteArray} (ha : Asc a) (i j : Nat) : Asc (a.extract i j) := by
  intro x hx
  rw [ByteArray.data_extract, Array.toList_extract, List.extract_eq_take_drop] at hx
  exact ha x (List.mem_of_mem_drop (List.mem_of_mem_take hx))
theorem Asc.valid {a : ByteArray} (ha : Asc a) : Lib.validD a.data.toList = true := by
  have : ∀ l : List UInt8, (∀ b ∈ l, b.toNat < 128) → Lib.validD l = true := by
    intro l
    induction l with
    | nil => intro _; exact Lib.validD_nil
    | cons b r ih => intro h; rw [Lib.validD_cons b r (h b (by simp))]; exact ih (fun x hx => h x (by simp [hx]))
  exact this _ ha
theorem dec_asc : ∀ u : Nat, ∀ x ∈ Lib.decDigits u, x.toNat < 128 := by
  intro u
  induction u using Nat.strongRecOn with
  | ind u ih =>
    intro x hx
    rw [Lib.decDigits] at hx
    by_cases h : u < 10
    · rw [dif_pos h, List.mem_singleton] at hx
      rw [hx, u8_toNat _ (by omega)]; omega
    · rw [dif_neg h] at hx
      rcases List.mem_append.1 hx with h1 | h1
      · exact ih (u / 10) (by omega) x h1
      · rw [List.mem_singleton] at h1
        rw [h1, u8_toNat _ (by omega)]; omega
theorem digT_asc (n : Int) : Asc (digT n) := by intro x hx; exact dec_asc _ x (by simpa [digT] using hx)
theorem one_asc (b : UInt8) (h : b.toNat < 128) : Asc ⟨#[b]⟩ := by
  intro x hx
  rw [show (⟨#[b]⟩ : ByteArray).data.toList = [b] from rfl, List.mem_singleton] at hx
  rw [hx]; exact h
theorem nil_asc : Asc ⟨#[]⟩ := by intro x hx; simp at hx
theorem padZ_asc (f m : Nat) : ∀ s : ByteArray, Asc s → Asc (padZ f m s) := by
  induction f with
  | zero => intro s h; exact h
  | succ f ih =>
    intro s h
    rw [padZ]
    split
    · exact ih _ ((one_asc 48 (by decide)).app h)
    · exact h
theorem decBody_asc (n : Int) (m : Nat) : Asc (decBody n m) := by
  unfold decBody
  have h := padZ_asc 60 m _ (digT_asc n)
  exact ((h.ext _ _).app (one_asc 46 (by decide))).app (h.ext _ _)
theorem numT_asc (n : Int) : Asc (numT n) := by
  by_cases h : n < 0
  · rw [numT_neg h]; exact (one_asc 45 (by decide)).app (digT_asc n)
  · rw [numT_pos h]; exact digT_asc n
theorem decTx_asc (n : Int) (m : Nat) : Asc (decTx n m) := by
  unfold decTx
  split
  · exact nil_asc
  split
  · exact numT_asc n
  split
  · exact (one_asc 45 (by decide)).app (decBody_asc n m)
  · exact decBody_asc n m
theorem mem_get {α : Type} {x : α} {l : List α} (h : x ∈ l) : ∃ i, ∃ hi : i < l.length, l[i] = x := List.getElem_of_mem h
theorem AllT.allB {P : T → Prop} {p : T → Bool} (hp : ∀ t, P t → p t = true) : ∀ t, AllT P t → allB p t = true := by
  apply T.ind
  intro k n x s l ih h
  rw [AllT_iff] at h
  rw [allB_eq, Bool.and_eq_true, List.all_eq_true]
  exact ⟨hp _ h.1, fun u hu => ih u hu (h.2 u hu)⟩
theorem own_kinds {k n x : Int} {s : ByteArray} {m : Nat} (h : ownQ k n x s m) : k = 1 ∨ k = 2 ∨ k = 3 ∨ k = 4 ∨ k = 5 ∨ k = 6 ∨ k = 7 ∨ k = 8 ∨ k = 9 ∨ k = 10 ∨ k = 11 := by
  by_cases hr : k < 1 ∨ 11 < k
  · exact absurd h (ownQ_out _ _ _ _ _ hr)
  · omega
theorem impl_boolText (n : Int) (w : World) (hn : I64 n) : Calls Tryz.prog 195 #[.int .i64 n] w fun e w' => e = .returned (.string (if n = 1 then ⟨#[116, 114, 117, 101]⟩ else ⟨#[102, 97, 108, 115, 101]⟩)) ∧ Below w.heap.size w w' := by
  obtain ⟨hn0, hn1⟩ := hn
  by_cases h1 : n = 1
  · subst h1
    rw [if_pos rfl]
    go_enter Tryz.func195, Tryz.ntmps195
    go_wp2_with fail
    go_ret
    exact ⟨rfl, Below.refl _ _⟩
  · rw [if_neg h1]
    go_enter Tryz.func195, Tryz.ntmps195
    go_wp2_with fail
    go_ret
    exact ⟨rfl, Below.refl _ _⟩
set_option maxHeartbeats 2000000 in
theorem impl_leafText (t : T) (a : Option Addr) (cap B : Nat) (w : World) (hr : R w B a cap t.l) (hwf : Wf t) (hsz : T.sz t ≤ 1048576) (he : Env B w) (hB : B ≤ w.heap.size) (hp : wrP t) (h4 : t.k ≠ 4) (h9 : t.k ≠ 9) (h10 : t.k ≠ 10) :
    Calls Tryz.prog 136 #[.agg (cV t a cap)] w fun e w' => e = .returned (.string (leafT t.k t.n t.x t.s)) ∧ Below w.heap.size w w' := by
  cases t with
  | mk k n x s l =>
    obtain ⟨hk, hn, hx, hsm⟩ := hwf
    simp only [wrP, T.k, T.n, T.x] at hp
    simp only [cV, T.k, T.n, T.x, T.s, T.l] at hr hk hn hx hsm h4 h9 h10 ⊢
    obtain ⟨hk0, hk1⟩ := hk
    rw [sz_of] at hsz
    obtain ⟨hlc, hcap⟩ := hr.len
    clear hr
    have H0 := Lib.hid (below1 w (.cells #[Value.int IntKind.i64 k, Value.int IntKind.i64 n, Value.int IntKind.i64 x, Value.string s, Value.slice a l.length cap] 26))
    have HE := Lib.hid ((he.step (H0.out.mono hB)).here (w := w.alloc _) (by simp; omega))
    clear he
    have HN := Lib.hid hn
    have HX := Lib.hid hx
    obtain ⟨hn0, hn1⟩ := hn
    obtain ⟨hx0, hx1⟩ := hx
    have c1 : k = 1 ∨ k = 2 ∨ k = 3 ∨ k = 6 ∨ k = 7 := by omega
    clear h4 h9 h10
    obtain rfl | rfl | rfl | rfl | rfl := c1
    · have HD := Lib.hid (show leafT 1 n x s = ⟨#[110, 117, 108, 108]⟩ from rfl)
      go_enter Tryz.func136, Tryz.ntmps136
      go_wp2_with fail
      go_ret
      exact ⟨ret_s HD.out.symm, H0.out⟩
    · have HD := Lib.hid (show leafT 2 n x s = if n = 1 then ⟨#[116, 114, 117, 101]⟩ else ⟨#[102, 97, 108, 115, 101]⟩ from rfl)
      go_enter Tryz.func136, Tryz.ntmps136
      go_wp2_with fail
      refine (impl_boolText n _ HN.out).mono ?_
      rintro e w2 ⟨rfl, hb2⟩
      rw [← HD.out]
      have HB2 := Lib.hid (below_step H0.out hb2 (by simp)); clear hb2
      go_wp2_with fail
      go_ret
      exact ⟨rfl, HB2.out⟩
    · have HD := Lib.hid (show leafT 3 n x s = numT n from rfl)
      go_enter Tryz.func136, Tryz.ntmps136
      go_wp2_with fail
      refine (impl_NumText n _ HN.out (HE.out.1 _ (Below.refl _ _))).mono ?_
      rintro e w2 ⟨rfl, hb2⟩
      have HB2 := Lib.hid (below_step H0.out hb2 (by simp)); clear hb2
      go_wp2_with fail
      go_ret
      exact ⟨ret_s HD.out.symm, HB2.out⟩
    · obtain ⟨m, rfl⟩ : ∃ m : Nat, x = -(m : Int) := ⟨(-x).toNat, by omega⟩
      have HD := Lib.hid (show leafT 6 n (-(m : Int)) s = decTx n m from by
        simp only [leafT]
        simp)
      have hm40 : m ≤ 40 := by omega
      go_enter Tryz.func136, Tryz.ntmps136
      go_wp2_with fail
      refine (impl_DecText n m _ HN.out hm40 HE.out.1).mono ?_
      rintro e w2 ⟨rfl, hb2⟩
      have HB2 := Lib.hid (below_step H0.out hb2 (by simp)); clear hb2
      go_wp2_with fail
      go_ret
      exact ⟨ret_s HD.out.symm, HB2.out⟩
    · have HD := Lib.hid (show leafT 7 n x s = quoteT s from rfl)
      go_enter Tryz.func136, Tryz.ntmps136
      go_wp2_with fail
      refine (impl_Quote s _ (by omega) HE.out.2).mono ?_
      rintro e w2 ⟨rfl, hb2⟩
      have HB2 := Lib.hid (below_step H0.out hb2 (by simp)); clear hb2
      go_wp2_with fail
      go_ret
      exact ⟨ret_s HD.out.symm, HB2.out⟩
set_option maxHeartbeats 4000000 in
theorem spec_l11Write : ∀ t : T, ∀ (a : Option Addr) (cap B : Nat) (w : World), R w B a cap t.l → Wf t → T.sz t ≤ 1048576 → B ≤ w.heap.size → allB (fun t => decide (wrP t)) t = true →
    Calls Tryz.prog 84 #[.agg (cV t a cap)] w fun e w' => e = .returned (.string (writeT t)) ∧ Below w.heap.size w w' := by
  intro t
  induction t using T.ind with
  | h k n x s l ih =>
    intro a cap B w hr hwf hsz hB hall
    have IH := Lib.hid ih; clear ih
    obtain ⟨hk, hn, hx, hsm⟩ := hwf
    rw [allB_eq] at hall
    simp only [Bool.and_eq_true, List.all_eq_true, T.l, decide_eq_true_eq] at hall
    obtain ⟨hp, hch⟩ := hall
    have HCH := Lib.hid hch; clear hch
    simp only [wrP, T.k, T.n, T.x] at hp
    simp only [cV, T.k, T.n, T.x, T.s, T.l] at hr hk hn hx hsm ⊢
    obtain ⟨hk0, hk1⟩ := hk
    rw [sz_of] at hsz
    obtain ⟨hlc, hcap⟩ := hr.len
    have HR := Lib.hid hr; clear hr
    have H0 := Lib.hid (below1 w (.cells #[Value.int IntKind.i64 k, Value.int IntKind.i64 n, Value.int IntKind.i64 x, Value.string s, Value.slice a l.length cap] 26))
    have HN := Lib.hid hn
    have HX := Lib.hid hx
    obtain ⟨hn0, hn1⟩ := hn
    obtain ⟨hx0, hx1⟩ := hx
    have c1 : k = 1 ∨ k = 2 ∨ k = 3 ∨ k = 6 ∨ k = 4 ∨ k = 7 ∨ k = 9 ∨ k = 10 := by omega
    obtain rfl | rfl | rfl | rfl | rfl | rfl | rfl | rfl := c1
    · have HD := Lib.hid (show writeT (.mk 1 n x s l) = ⟨#[110, 117, 108, 108]⟩ from rfl)
      go_enter Tryz.func84, Tryz.ntmps84
      go_wp2_with fail
      go_ret
      exact ⟨ret_s HD.out.symm, H0.out⟩
    · by_cases h1 : n = 1
      · subst h1
        have HD := Lib.hid (show writeT (.mk 2 1 x s l) = ⟨#[116, 114, 117, 101]⟩ from rfl)
        go_enter Tryz.func84, Tryz.ntmps84
        go_wp2_with fail
        go_ret
        exact ⟨ret_s HD.out.symm, H0.out⟩
      · have HD := Lib.hid (show writeT (.mk 2 n x s l) = ⟨#[102, 97, 108, 115, 101]⟩ from (if_neg h1 : (if n = 1 then _ else _) = _))
        go_enter Tryz.func84, Tryz.ntmps84
        go_wp2_with fail
        go_ret
        exact ⟨ret_s HD.out.symm, H0.out⟩
    · have HD := Lib.hid (show writeT (.mk 3 n x s l) = numT n from rfl)
      go_enter Tryz.func84, Tryz.ntmps84
      go_wp2_with fail
      refine (spec_NumText n _ HN.out).mono ?_
      rintro e w2 ⟨rfl, hb2⟩
      have HB2 := Lib.hid (below_step H0.out hb2 (by simp)); clear hb2
      go_wp2_with fail
      go_ret
      exact ⟨ret_s HD.out.symm, HB2.out⟩
    · obtain ⟨m, rfl⟩ : ∃ m : Nat, x = -(m : Int) := ⟨(-x).toNat, by omega⟩
      have HD := Lib.hid (show writeT (.mk 6 n (-(m : Int)) s l) = decTx n m from by
        have : (- -(m : Int)).toNat = m := by omega
        simp only [writeT, leafT]
        simp [this])
      have hm40 : m ≤ 40 := by omega
      go_enter Tryz.func84, Tryz.ntmps84
      go_wp2_with fail
      refine (spec_DecText n m _ HN.out hm40).mono ?_
      rintro e w2 ⟨rfl, hb2⟩
      have HB2 := Lib.hid (below_step H0.out hb2 (by simp)); clear hb2
      go_wp2_with fail
      go_ret
      exact ⟨ret_s HD.out.symm, HB2.out⟩
    · have HD := Lib.hid (show writeT (.mk 4 n x s l) = fltTx n x from rfl)
      go_enter Tryz.func84, Tryz.ntmps84
      go_wp2_with fail
      refine (spec_FltText n x _ HN.out HX.out).mono ?_
      rintro e w2 ⟨rfl, hb2⟩
      have HB2 := Lib.hid (below_step H0.out hb2 (by simp)); clear hb2
      go_wp2_with fail
      go_ret
      exact ⟨ret_s HD.out.symm, HB2.out⟩
    · have HD := Lib.hid (show writeT (.mk 7 n x s l) = quoteT s from rfl)
      go_enter Tryz.func84, Tryz.ntmps84
      go_wp2_with fail
      refine (spec_Quote s _ (by omega)).mono ?_
      rintro e w2 ⟨rfl, hb2⟩
      have HB2 := Lib.hid (below_step H0.out hb2 (by simp)); clear hb2
      go_wp2_with fail
      go_ret
      exact ⟨ret_s HD.out.symm, HB2.out⟩
    · have HD := Lib.hid (show writeT (.mk 9 n x s l) = (⟨#[91]⟩ ++ writesT false 0 l) ++ ⟨#[93]⟩ from rfl)
      have z1 : (⟨#[91]⟩ : ByteArray).size = 1 := rfl
      have z2 : (⟨#[93]⟩ : ByteArray).size = 1 := rfl
      have z3 : (⟨#[58]⟩ : ByteArray).size = 1 := rfl
      have z4 : (⟨#[44]⟩ : ByteArray).size = 1 := rfl
      go_enter Tryz.func84, Tryz.ntmps84
      go_wp2_with fail
      generalize hW : w.alloc (Obj.cells #[Value.int IntKind.i64 9, Value.int IntKind.i64 n, Value.int IntKind.i64 x, Value.string s, Value.slice a l.length cap] 26) = W0
      have q1 : Is W0 w.heap.size 26 #[Value.int IntKind.i64 9, Value.int IntKind.i64 n, Value.int IntKind.i64 x, Value.string s, Value.slice a l.length cap] := by subst hW; exact Is.new _ _ _
      have H0 := Lib.hid (show Below w.heap.size w W0 from by subst hW; exact below1 _ _)
      have hs0 : W0.heap.size = w.heap.size + 1 := by subst hW; simp
      clear hW
      go_loopw [3, 4] (fun q i wr => ∃ (j : Nat) (o : ByteArray), j ≤ l.length ∧ i = .int .i64 j ∧ q = .string o ∧ Hid (o = writesT false 0 (l.take j)) ∧ o.size ≤ 300 * T.szL (l.take j) ∧ Below W0.heap.size W0 wr) (fun _ i _ => l.length - (intOf i).toNat)
      case atStart => exact ⟨0, _, Nat.zero_le _, rfl, rfl, rfl, Nat.zero_le _, Below.refl _ _⟩
      case round =>
        obtain ⟨j, o, hj, rfl, rfl, HO, hos, hb⟩ := hrel
        have hbs := hb.size
        have hbox := q1.below hb (by omega)
        obtain ⟨x0, x1, x2, x3, x4⟩ := hbox.cells5
        have hlt2 : w.heap.size < wr.heap.size := by omega
        have HBw := Lib.hid (H0.out.trans (hb.mono (by omega)))
        by_cases hlt : j < l.length
        · obtain ⟨b, o2, a2, cap2, rfl, hbl, d0, d1, d2, d3, d4, hwfj, hq⟩ := (HR.out.below HBw.out hB).get j hlt
          have hlb : b < wr.heap.size := by omega
          have hszj := T.sz_get l j hlt
          have htk := T.szL_take_succ l j hlt
          have htl := T.szL_take_le l (j + 1)
          have HWF := Lib.hid hwfj; clear hwfj
          have HQ := Lib.hid hq; clear hq
          have hws := writeT_size l[j] (HCH.out _ (List.getElem_mem hlt))
          have HE := Lib.hid (writesT_succ false l 0 j hlt)
          rw [Nat.zero_add] at HE

          by_cases hj0 : j = 0
          · subst hj0
            rw [Nat.zero_mul, Nat.add_zero] at d0 d1 d2 d3 d4
            have HS := Lib.hid (show sepT false 0 = ⟨#[]⟩ from rfl)
            go_wp2_with fail
            refine (IH.out l[0] (List.getElem_mem hlt) a2 cap2 B wr HQ.out HWF.out (by omega) (by omega) (HCH.out _ (List.getElem_mem hlt))).mono ?_
            rintro e w2 ⟨rfl, hb2⟩
            go_wp2_with fail
            go_roundw
            case rel => exact ⟨0 + 1, _, by omega, by go_num, rfl, by rw [HE.out, HS.out, HO.out]; apply ByteArray.ext; simp [ByteArray.data_append], by simp only [ByteArray.size_append]; omega, hb.trans (hb2.mono hbs)⟩
            case measure => simp [intOf]; omega
          · have hsv := show sepT false j = ⟨#[44]⟩ from (if_neg hj0).trans (if_neg (by simp))
            have HS := Lib.hid (show sepT false j = ⟨#[44]⟩ from hsv)
            go_wp2_with fail
            refine (IH.out l[j] (List.getElem_mem hlt) a2 cap2 B wr HQ.out HWF.out (by omega) (by omega) (HCH.out _ (List.getElem_mem hlt))).mono ?_
            rintro e w2 ⟨rfl, hb2⟩
            go_wp2_with fail
            go_roundw
            case rel => exact ⟨j + 1, _, by omega, by go_num, rfl, by (have : _ = _ := HE.out); rw [this, HS.out, HO.out]; apply ByteArray.ext; simp [ByteArray.data_append], by simp only [ByteArray.size_append]; omega, hb.trans (hb2.mono hbs)⟩
            case measure => simp [intOf]; omega
        · have hjj : l.length = j := by omega
          have HJ := Lib.hid (show l.take j = l from by rw [← hjj, List.take_length]); clear hjj
          have HE := Lib.hid (show (⟨#[91]⟩ ++ o) ++ ⟨#[93]⟩ = writeT (.mk 9 n x s l) from by rw [HD.out, HO.out, HJ.out])
          have htl := T.szL_take_le l j
          go_wp2_with fail
          go_ret
          exact ⟨ret_s HE.out, HBw.out⟩
    · have HD := Lib.hid (show writeT (.mk 10 n x s l) = (⟨#[123]⟩ ++ writesT true 0 l) ++ ⟨#[125]⟩ from rfl)
      have z1 : (⟨#[123]⟩ : ByteArray).size = 1 := rfl
      have z2 : (⟨#[125]⟩ : ByteArray).size = 1 := rfl
      have z3 : (⟨#[58]⟩ : ByteArray).size = 1 := rfl
      have z4 : (⟨#[44]⟩ : ByteArray).size = 1 := rfl
      go_enter Tryz.func84, Tryz.ntmps84
      go_wp2_with fail
      generalize hW : w.alloc (Obj.cells #[Value.int IntKind.i64 10, Value.int IntKind.i64 n, Value.int IntKind.i64 x, Value.string s, Value.slice a l.length cap] 26) = W0
      have q1 : Is W0 w.heap.size 26 #[Value.int IntKind.i64 10, Value.int IntKind.i64 n, Value.int IntKind.i64 x, Value.string s, Value.slice a l.length cap] := by subst hW; exact Is.new _ _ _
      have H0 := Lib.hid (show Below w.heap.size w W0 from by subst hW; exact below1 _ _)
      have hs0 : W0.heap.size = w.heap.size + 1 := by subst hW; simp
      clear hW
      go_loopw [3, 4] (fun q i wr => ∃ (j : Nat) (o : ByteArray), j ≤ l.length ∧ i = .int .i64 j ∧ q = .string o ∧ Hid (o = writesT true 0 (l.take j)) ∧ o.size ≤ 300 * T.szL (l.take j) ∧ Below W0.heap.size W0 wr) (fun _ i _ => l.length - (intOf i).toNat)
      case atStart => exact ⟨0, _, Nat.zero_le _, rfl, rfl, rfl, Nat.zero_le _, Below.refl _ _⟩
      case round =>
        obtain ⟨j, o, hj, rfl, rfl, HO, hos, hb⟩ := hrel
        have hbs := hb.size
        have hbox := q1.below hb (by omega)
        obtain ⟨x0, x1, x2, x3, x4⟩ := hbox.cells5
        have hlt2 : w.heap.size < wr.heap.size := by omega
        have HBw := Lib.hid (H0.out.trans (hb.mono (by omega)))
        by_cases hlt : j < l.length
        · obtain ⟨b, o2, a2, cap2, rfl, hbl, d0, d1, d2, d3, d4, hwfj, hq⟩ := (HR.out.below HBw.out hB).get j hlt
          have hlb : b < wr.heap.size := by omega
          have hszj := T.sz_get l j hlt
          have htk := T.szL_take_succ l j hlt
          have htl := T.szL_take_le l (j + 1)
          have HWF := Lib.hid hwfj; clear hwfj
          have HQ := Lib.hid hq; clear hq
          have hws := writeT_size l[j] (HCH.out _ (List.getElem_mem hlt))
          have HE := Lib.hid (writesT_succ true l 0 j hlt)
          rw [Nat.zero_add] at HE

          by_cases hj0 : j = 0
          · subst hj0
            rw [Nat.zero_mul, Nat.add_zero] at d0 d1 d2 d3 d4
            have HS := Lib.hid (show sepT true 0 = ⟨#[]⟩ from rfl)
            go_wp2_with fail
            refine (IH.out l[0] (List.getElem_mem hlt) a2 cap2 B wr HQ.out HWF.out (by omega) (by omega) (HCH.out _ (List.getElem_mem hlt))).mono ?_
            rintro e w2 ⟨rfl, hb2⟩
            go_wp2_with fail
            go_roundw
            case rel => exact ⟨0 + 1, _, by omega, by go_num, rfl, by rw [HE.out, HS.out, HO.out]; apply ByteArray.ext; simp [ByteArray.data_append], by simp only [ByteArray.size_append]; omega, hb.trans (hb2.mono hbs)⟩
            case measure => simp [intOf]; omega
          · by_cases hpar : j % 2 = 1
            · have hsv := show sepT true j = ⟨#[58]⟩ from (if_neg hj0).trans (if_pos ⟨rfl, hpar⟩)
              have HS := Lib.hid (show sepT true j = ⟨#[58]⟩ from hsv)
              go_wp2_with fail
              refine (IH.out l[j] (List.getElem_mem hlt) a2 cap2 B wr HQ.out HWF.out (by omega) (by omega) (HCH.out _ (List.getElem_mem hlt))).mono ?_
              rintro e w2 ⟨rfl, hb2⟩
              go_wp2_with fail
              go_roundw
              case rel => exact ⟨j + 1, _, by omega, by go_num, rfl, by (have : _ = _ := HE.out); rw [this, HS.out, HO.out]; apply ByteArray.ext; simp [ByteArray.data_append], by simp only [ByteArray.size_append]; omega, hb.trans (hb2.mono hbs)⟩
              case measure => simp [intOf]; omega
            · have hsv := show sepT true j = ⟨#[44]⟩ from (if_neg hj0).trans (if_neg (fun h => hpar h.2))
              have HS := Lib.hid (show sepT true j = ⟨#[44]⟩ from hsv)
              go_wp2_with fail
              refine (IH.out l[j] (List.getElem_mem hlt) a2 cap2 B wr HQ.out HWF.out (by omega) (by omega) (HCH.out _ (List.getElem_mem hlt))).mono ?_
              rintro e w2 ⟨rfl, hb2⟩
              go_wp2_with fail
              go_roundw
              case rel => exact ⟨j + 1, _, by omega, by go_num, rfl, by (have : _ = _ := HE.out); rw [this, HS.out, HO.out]; apply ByteArray.ext; simp [ByteArray.data_append], by simp only [ByteArray.size_append]; omega, hb.trans (hb2.mono hbs)⟩
              case measure => simp [intOf]; omega
        · have hjj : l.length = j := by omega
          have HJ := Lib.hid (show l.take j = l from by rw [← hjj, List.take_length]); clear hjj
          have HE := Lib.hid (show (⟨#[123]⟩ ++ o) ++ ⟨#[125]⟩ = writeT (.mk 10 n x s l) from by rw [HD.out, HO.out, HJ.out])
          have htl := T.szL_take_le l j
          go_wp2_with fail
          go_ret
          exact ⟨ret_s HE.out, HBw.out⟩
end Go.Proofs.YtggdenkmohnijaaGreatDoor
