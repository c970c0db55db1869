/- Texts of this proof, merged: Quo, Quo2. No condition beyond what each theorem states. -/
import Derived.Test.YtggdenkmohnijaaGreatDoorZN20
import Derived.Test.YtggdenkmohnijaaGreatDoorZN26
import Derived.Lib.OthersKept
import Derived.Laws.RangeString
import Derived.Laws.RangeAny
set_option linter.unusedSimpArgs false
set_option linter.unnecessarySimpa false
namespace Go.Proofs.YtggdenkmohnijaaGreatDoor
open Go.ChangeShapes Go.WideShapes Go.ChangeAt Go.RowKit Go.Joins
set_option linter.unusedVariables false
set_option maxRecDepth 100000
def runesG : Nat → List UInt8 → List Int
  | 0, _ => []
  | f + 1, l => if l = [] then [] else ((grL l).1 : Int) :: runesG f (l.drop (grL l).2)
def runesT (s : ByteArray) : List Int := runesG s.size s.data.toList
theorem runesG_nil (f : Nat) : runesG f [] = [] := by cases f <;> simp [runesG]
theorem runesG_cons (f : Nat) (l : List UInt8) (h : l ≠ []) : runesG (f + 1) l = ((grL l).1 : Int) :: runesG f (l.drop (grL l).2) := by rw [runesG, if_neg h]
theorem grW_small (n b0 b1 b2 b3 : Nat) (h1 : b1 < 256) (h2 : b2 < 256) (h3 : b3 < 256) : (grW n b0 b1 b2 b3).1 ≤ 2097151 := by
  unfold grW
  repeat' split
  all_goals simp only [] <;> omega
theorem grL_small (l : List UInt8) : (grL l).1 ≤ 2097151 := grW_small _ _ _ _ _ (UInt8.toNat_lt _) (UInt8.toNat_lt _) (UInt8.toNat_lt _)
theorem info_Int2 : (Tryz.prog.info? 3).map (fun i => (i.zero, i.size, i.bytes)) = some (some (.int .i64 0), 1, 8) := by kernel_rfl
set_option maxHeartbeats 4000000 in
theorem spec_RunesOf (s : ByteArray) (w : World) (hs : s.size ≤ 1048576) (hv : Lib.validD s.data.toList = true) :
    Calls Tryz.prog 207 #[.string s] w fun e w' => ∃ a' cap', e = .returned (.slice a' (runesT s).length cap') ∧ Rd EInt 1 w' w'.heap.size a' cap' (runesT s) ∧ Below w.heap.size w w' := by
  have HV0 := Lib.hid hv; clear hv
  have h0 := AppL.empty (E := EInt) (n := 1) (e := 3) w w.heap.size (Nat.le_refl _)
  go_enter Tryz.func207, Tryz.ntmps207
  go_wp2_with fail
  refine (spec_TextOk s _ (by omega)).mono ?_
  rintro e w1 ⟨rfl, hb1⟩
  rw [HV0.out]
  have hs1 := hb1.size
  have HB1 := Lib.hid (below_step (below1 w (.cells #[] 3)) hb1 (by simp))
  have HA1 := Lib.hid (h0.agree EInt.elem (fun f hf => hb1.block f hf) (by simp))
  have hs1' : w.heap.size < w1.heap.size := by simp at hs1; omega
  clear hb1 h0 hs1
  have hcv := Lib.run_convert_string_bytes (P := Tryz.prog) w1 9 22 5 s Tryz.underlying9 Tryz.underlying22 Tryz.underlying5
  have hge := grownCap_ge w1 s.size 0 5
  have hle := grownCap_le_maxLen w1 s.size 0 5 (by unfold maxLen; omega)
  unfold maxLen at hle
  generalize grownCap w1 s.size 0 5 = cap at hcv hge hle
  have HB := Lib.hid (bytesWorld_below w1 5 s)
  have hsz := Lib.bytesWorld_size w1 5 s
  have HC := Lib.hid (fun j (hj : j < s.size) => Lib.bytesWorld_cell w1 5 s j hj)
  generalize Lib.bytesWorld w1 5 s = W1 at hcv HB hsz HC
  have HA2 := Lib.hid (HA1.out.agree EInt.elem (fun f hf => HB.out.block f hf) (by omega))
  have hsW : w1.heap.size < W1.heap.size := by omega
  have HBW := Lib.hid (HB1.out.trans (HB.out.mono (by omega)))
  have HLEN := Lib.hid (Lib.size_eq s)
  go_wp2_with fail
  go_loopw [3, 5, 20, 6, 7, 8] (fun q i _ _ _ _ wr => ∃ (j f : Nat) (ar : Option Addr) (cr : Nat) (L : List Int), j ≤ s.size ∧ i = .int .i64 j ∧ q = .slice ar L.length cr ∧ AppL EInt 1 3 wr w.heap.size ar cr L [] ∧ (∀ k, (Value.slice ar L.length cr).ownBlock = some k → k ≠ w1.heap.size) ∧ L.length ≤ j ∧ s.size - j ≤ f ∧ Hid (runesT s = L ++ runesG f (s.data.toList.drop j)) ∧ Hid (Lib.validD (s.data.toList.drop j) = true) ∧ wr.heap[w1.heap.size]? = W1.heap[w1.heap.size]? ∧ Below w.heap.size w wr ∧ W1.heap.size ≤ wr.heap.size) (fun _ i _ _ _ _ _ => s.size - (intOf i).toNat)
  case atStart => exact ⟨0, s.size, _, _, [], Nat.zero_le _, rfl, rfl, HA2.out, fun k hk => by simp [Value.ownBlock] at hk; omega, by simp, by omega, rfl, by rw [List.drop_zero]; exact HV0.out, rfl, HBW.out, Nat.le_refl _⟩
  case round =>
    obtain ⟨j, f, ar, cr, L, hj, rfl, rfl, happ, hown, hLj, hf, HR, HVJ, hblk, hb, hsw⟩ := hrel
    have HA := Lib.hid happ; clear happ
    have HO := Lib.hid hown; clear hown
    by_cases hlt : j < s.size
    · obtain ⟨f', rfl⟩ : ∃ f', f = f' + 1 := ⟨f - 1, by omega⟩
      have hne : s.data.toList.drop j ≠ [] := by
        intro e
        have := congrArg List.length e
        simp only [List.length_drop, List.length_nil] at this; have := HLEN.out; omega
      have HG := Lib.hid (validD_gr _ hne)
      have HAt := Lib.hid (grL_at s.data.toList j)
      have HL := Lib.hid (grL_cases _ hne)
      have hz : (grL (s.data.toList.drop j)).2 ≠ 0 := by
        intro h
        have h1 := HG.out
        rw [if_pos h, HVJ.out] at h1
        cases h1
      have cell : ∀ k, k < s.size → wr.cell? ⟨w1.heap.size, 0 + k, none⟩ = some (.int .u8 (s.data.toList.getD k 0).toNat) := fun k hk => by rw [Nat.zero_add]; exact (World.cell?_of_block (w := W1) (a := ⟨w1.heap.size, k, none⟩) hblk).trans (HC.out k hk)
      have HK := Lib.hid cell; clear cell
      have HBL := Lib.hid hblk; clear hblk
      go_wp2_with fail
      refine (spec_GetRune s.size w1.heap.size 0 cap j (s.data.toList.getD j 0).toNat (s.data.toList.getD (j + 1) 0).toNat (s.data.toList.getD (j + 2) 0).toNat (s.data.toList.getD (j + 3) 0).toNat wr hlt hge hle (by omega) (UInt8.toNat_lt _) (UInt8.toNat_lt _) (UInt8.toNat_lt _) (UInt8.toNat_lt _) (HK.out j hlt) (fun h => HK.out _ h) (fun h => HK.out _ h) (fun h => HK.out _ h)).mono ?_
      rw [show s.size - j = s.data.toList.length - j from by rw [HLEN.out], ← HAt.out]
      rintro e w3 ⟨rfl, hb3⟩
      have hd : decide ((grL (s.data.toList.drop j)).2 ≠ 0) = true := decide_eq_true hz
      have hk : (grL (s.data.toList.drop j)).2 ≤ s.size - j := by
        rcases HL.out with h | h
        · exact absurd h.1 hz
        · have := h.2.2.1; simp only [List.length_drop] at this; have := HLEN.out; omega
      have hif : (if (grL (s.data.toList.drop j)).2 = 0 then 0 else j + (grL (s.data.toList.drop j)).2) = j + (grL (s.data.toList.drop j)).2 := if_neg hz
      have HRN := Lib.hid (show runesT s = (L ++ [((grL (s.data.toList.drop j)).1 : Int)]) ++ runesG f' (s.data.toList.drop (j + (grL (s.data.toList.drop j)).2)) from by
        rw [HR.out, runesG_cons f' _ hne, List.drop_drop, List.append_assoc]; rfl)
      have HVN := Lib.hid (show Lib.validD (s.data.toList.drop (j + (grL (s.data.toList.drop j)).2)) = true from by
        have h1 := HG.out
        rw [if_neg hz, HVJ.out, List.drop_drop] at h1
        exact h1.symm)
      have hsm := grL_small (s.data.toList.drop j)
      rw [grV, hd, hif]
      have HZ := Lib.hid hz
      have HA3 := Lib.hid (HA.out.agree EInt.elem (fun f hf => hb3.block f hf) (by omega))
      have HBL3 := Lib.hid ((hb3.block w1.heap.size (by omega)).trans HBL.out)
      have hs3 := hb3.size
      have HB3 := Lib.hid (hb.trans (hb3.mono hb.size))
      have hO1 := HO.out
      have HO3 := Lib.hid (fun k hk => (HA3.out.row k hk).2)
      generalize grL (s.data.toList.drop j) = g at *
      clear HG HL hif hd hb3 hne HAt
      have HN := Lib.hid (HA3.out.agree EInt.elem (fun f hf => (below1 w3 (.cells #[.int .i64 (g.1 : Int)] 3)).block f hf) (by have := HB3.out.size; omega))
      have hL63 : L.length + 1 ≤ 1048577 := by omega
      clear hO1
      go_wp2_with (at_builtin; refine wpList_appX EInt.elem rfl _ _ 71 rfl (.int .i64 0) 8 Tryz.underlying71 info_Int2 rfl w.heap.size ar cr L [] rfl HN.out (by have := HB3.out.size; simp; omega) w3.heap.size 0 1 1 [(g.1 : Int)] [] rfl rfl ⟨[], [], rfl, ⟨rfl, (Is.new w3 #[.int .i64 (g.1 : Int)] 3).cell 0 rfl, ⟨by omega, by omega⟩⟩, rfl⟩ (by simp) (by omega) (by unfold maxLen; omega) (by omega) ?_; intro ar2 cr2 w4 happ4 hb4 hout4 hown4 hsz4)
      go_roundw
      case rel => exact ⟨j + g.2, f', ar2, cr2, L ++ [(g.1 : Int)], by omega, by go_num, by rw [List.length_append]; rfl, happ4, fun k hk => by
          rcases hown4 k hk with h | h
          · exact HO.out k h
          · simp at h; omega, by rw [List.length_append]; simp; have := HZ.out; omega, by have := HZ.out; omega, HRN.out, HVN.out, (hout4 w1.heap.size (by simp; omega) (fun k hk => fun e => HO.out k hk e.symm)).trans (((below1 w3 _).block w1.heap.size (by omega)).trans HBL3.out), (HB3.out.trans ((below1 w3 _).mono HB3.out.size)).trans hb4, by simp at hsz4; omega⟩
      case measure => simp [intOf]; have := HZ.out; omega
    · have hjj : s.size = j := by omega
      have HD := Lib.hid (show runesT s = L from by rw [HR.out, List.drop_eq_nil_of_le (by have := HLEN.out; omega), runesG_nil, List.append_nil])
      go_wp2_with fail
      go_ret
      exact ⟨ar, cr, by rw [HD.out]; rfl, by rw [HD.out]; exact HA.out.read (by omega), hb⟩
theorem runesG_len (f : Nat) : ∀ l, (runesG f l).length ≤ f := by
  induction f with
  | zero => intro l; simp [runesG]
  | succ f ih =>
    intro l
    rw [runesG]
    split
    · simp
    · simp only [List.length_cons]; have := ih (l.drop (grL l).2); omega
theorem escT_size (n : Int) : (escT n).size ≤ 12 := by
  have h1 := enc_size n
  have h2 := hexT_size (Utf8.encode n)
  have h3 : (⟨#[92, 117, 48, 48]⟩ : ByteArray).size = 4 := rfl
  unfold escT
  repeat' split
  all_goals first | decide | (rw [ByteArray.size_append]; omega) | omega
def escF (l : List Int) : Nat → ByteArray
  | 0 => ⟨#[]⟩
  | j + 1 => escF l j ++ escT (l.getD j 0)
theorem escF_succ (l : List Int) (j : Nat) (h : j < l.length) : escF l (j + 1) = escF l j ++ escT l[j] := by
  rw [escF, List.getD_eq_getElem?_getD, List.getElem?_eq_getElem h]; rfl
def quoteT (s : ByteArray) : ByteArray := if Lib.validD s.data.toList = true then (⟨#[34]⟩ ++ escF (runesT s) (runesT s).length) ++ ⟨#[34]⟩ else ⟨#[]⟩
set_option maxHeartbeats 2000000 in
theorem spec_Quote (s : ByteArray) (w : World) (hs : s.size ≤ 1048576) :
    Calls Tryz.prog 140 #[.string s] w fun e w' => e = .returned (.string (quoteT s)) ∧ Below w.heap.size w w' := by
  by_cases hv : Lib.validD s.data.toList = true
  · have HD := Lib.hid (show quoteT s = (⟨#[34]⟩ ++ escF (runesT s) (runesT s).length) ++ ⟨#[34]⟩ from if_pos hv)
    have hlr : (runesT s).length ≤ 1048576 := by have := runesG_len s.size s.data.toList; unfold runesT; omega
    have HV := Lib.hid hv; clear hv
    go_enter Tryz.func140, Tryz.ntmps140
    go_wp2_with fail
    refine (spec_TextOk s _ (by omega)).mono ?_
    rintro e w1 ⟨rfl, hb1⟩
    rw [HV.out]
    go_wp2_with fail
    refine (spec_RunesOf s _ hs HV.out).mono ?_
    rintro e w2 ⟨a2, c2, rfl, hr2, hb2⟩
    have HB2 := Lib.hid (hb1.trans (hb2.mono hb1.size)); clear hb1 hb2
    have HR2 := Lib.hid hr2
    obtain ⟨hc1, hc2⟩ := hr2.len
    clear hr2
    have z34 : (⟨#[34]⟩ : ByteArray).size = 1 := rfl
    generalize runesT s = l at *
    go_wp2_with fail
    go_loopw [3, 5] (fun q i wr => ∃ (j : Nat) (o : ByteArray), j ≤ l.length ∧ i = .int .i64 j ∧ q = .string o ∧ Hid (o = ⟨#[34]⟩ ++ escF l j) ∧ o.size ≤ 1 + 12 * j ∧ Below w2.heap.size w2 wr) (fun _ i _ => l.length - (intOf i).toNat)
    case atStart => exact ⟨0, ⟨#[34]⟩, Nat.zero_le _, rfl, rfl, rfl, by omega, Below.refl _ _⟩
    case round =>
      obtain ⟨j, o, hj, rfl, rfl, HO, hos, hb⟩ := hrel
      have hbs := hb.size
      by_cases hlt : j < l.length
      · obtain ⟨b, o2, rfl, hbl, d0, hi⟩ := (HR2.out.below EInt.elem.loc hb (Nat.le_refl _)).int j hlt
        have hlb : b < wr.heap.size := by omega
        have hez := escT_size l[j]
        have HE := Lib.hid (show o ++ escT l[j] = ⟨#[34]⟩ ++ escF l (j + 1) from by rw [HO.out, escF_succ l j hlt, ByteArray.append_assoc])
        have HI := Lib.hid hi; clear hi
        go_wp2_with fail
        refine (spec_EscapeOf l[j] _ HI.out).mono ?_
        rintro e w3 ⟨rfl, hb3⟩
        go_wp2_with fail
        go_roundw
        case rel => exact ⟨j + 1, _, by omega, by go_num, rfl, HE.out, by rw [ByteArray.size_append]; omega, hb.trans (hb3.mono hbs)⟩
        case measure => simp [intOf]; omega
      · have hjj : l.length = j := by omega
        have HE := Lib.hid (show quoteT s = o ++ ⟨#[34]⟩ from by rw [HD.out, HO.out, hjj]); clear hjj
        go_wp2_with fail
        go_ret
        exact ⟨ret_s HE.out.symm, HB2.out.trans (hb.mono HB2.out.size)⟩
  · have HD := Lib.hid (show quoteT s = ⟨#[]⟩ from if_neg hv)
    have HV := Lib.hid (show Lib.validD s.data.toList = false from by simpa using hv); clear hv
    go_enter Tryz.func140, Tryz.ntmps140
    go_wp2_with fail
    refine (spec_TextOk s _ (by omega)).mono ?_
    rintro e w1 ⟨rfl, hb1⟩
    rw [HV.out]
    go_wp2_with fail
    go_ret
    exact ⟨ret_s HD.out.symm, hb1⟩
theorem iterAt_other (w : World) (k : Nat) (s : ByteArray) (p f : Nat) (h : f ≠ k) : (w.iterAt k s p).heap[f]? = w.heap[f]? := by
  simp [World.iterAt, Ne.symm h]
theorem iterAt_size (w : World) (k : Nat) (s : ByteArray) (p : Nat) : (w.iterAt k s p).heap.size = w.heap.size := by
  simp [World.iterAt]
theorem iterAt_below (w : World) (k : Nat) (s : ByteArray) (p B : Nat) (h : B ≤ k) : Below B w (w.iterAt k s p) :=
  ⟨rfl, rfl, rfl, by rw [iterAt_size]; exact Nat.le_refl _, fun f hf => iterAt_other w k s p f (by omega)⟩
theorem AppL.iter {w : World} {rlo cap k p p' : Nat} {s : ByteArray} {e : TypeId} {a : Option Addr} {l : List Int} (h : AppL EByte 1 e w rlo a cap l []) (hk : w.heap[k]? = Option.some (.stringIter s p)) : AppL EByte 1 e (w.iterAt k s p') rlo a cap l [] := by
  rcases h with h | ⟨g, cur, ha, h1, h3, h4, h5, h6, h7, h8⟩
  · exact Or.inl h
  · have hg : g ≠ k := by rintro rfl; rw [hk] at h3; cases h3
    exact Or.inr ⟨g, cur, ha, h1, (iterAt_other w k s p' g hg).trans h3, h4, h5, h6, h7.agree EByte.elem.loc l (Cells.of_block (iterAt_other w k s p' g hg) _ _) (fun f hf => by simp at hf), h8⟩
theorem AppL.notIter {w : World} {rlo cap k p : Nat} {s : ByteArray} {e : TypeId} {a : Option Addr} {l : List Int} (h : AppL EByte 1 e w rlo a cap l []) (hk : w.heap[k]? = Option.some (.stringIter s p)) : ∀ j, (Value.slice a l.length cap).ownBlock = Option.some j → k ≠ j := by
  intro j hj
  rcases h with ⟨rfl, rfl, rfl, _⟩ | ⟨g, cur, rfl, h1, h3, h4, h5, h6, h7, h8⟩
  · simp [Value.ownBlock] at hj
  · simp only [Value.ownBlock, Option.some.injEq] at hj
    subst hj
    rintro rfl; rw [hk] at h3; cases h3
theorem row34 : byteL ⟨#[34]⟩ = [34] := rfl
set_option maxHeartbeats 4000000 in
theorem impl_Quote (s : ByteArray) (w : World) (hs : s.size ≤ 1048576) (hU : UtfBelow w.heap.size w) :
    Calls Tryz.prog 198 #[.string s] w fun e w' => e = .returned (.string (quoteT s)) ∧ Below w.heap.size w w' := by
  by_cases hv : Lib.validD s.data.toList = true
  · have HD := Lib.hid (show quoteT s = (⟨#[34]⟩ ++ escF (runesT s) (runesT s).length) ++ ⟨#[34]⟩ from if_pos hv)
    have hlr : (runesT s).length ≤ 1048576 := by have := runesG_len s.size s.data.toList; unfold runesT; omega
    have HV := Lib.hid hv; clear hv
    go_enter Tryz.func198, Tryz.ntmps198
    go_wp2_with fail
    refine (impl_TextOk s _ (by omega) (hU _ (Below.refl _ _))).mono ?_
    rintro e w1 ⟨rfl, hb1⟩
    rw [HV.out]
    have HB1 := Lib.hid hb1; clear hb1
    have hs1 := HB1.out.size
    go_wp2_with fail
    have h0 : AppL EByte 1 5 (w1.alloc (.cells #[.int .u8 34] 5)) w1.heap.size (some ⟨w1.heap.size, 0, none⟩) 1 [34] [] :=
      Or.inr ⟨w1.heap.size, #[.int .u8 34], rfl, Nat.le_refl _, heap_alloc_new w1 _, by simp, by simp [maxLen], rfl, ⟨[], [], rfl, ⟨rfl, (Is.new w1 #[.int .u8 34] 5).cell 0 rfl, ⟨by omega, by omega⟩⟩, rfl⟩, by simp⟩
    generalize hW : (w1.alloc (.cells #[.int .u8 34] 5)).iter s 0 = W0
    have HA0 := Lib.hid (show AppL EByte 1 5 W0 w1.heap.size (some ⟨w1.heap.size, 0, none⟩) 1 [34] [] from by subst hW; exact h0.agree EByte.elem (fun f hf => (below1 (w1.alloc (.cells #[.int .u8 34] 5)) (.stringIter s 0)).block f hf) (by simp))
    have hI0 : W0.heap[w1.heap.size + 1]? = some (.stringIter s 0) := by
      subst hW
      have := World.iter_heap (w1.alloc (.cells #[.int .u8 34] 5)) s 0
      simpa using this
    have H0 := Lib.hid (show Below w1.heap.size w1 W0 from by subst hW; exact below2 _ _ _)
    have hsW : W0.heap.size = w1.heap.size + 2 := by subst hW; simp [World.iter]
    clear hW h0
    have z34 : (⟨#[34]⟩ : ByteArray).size = 1 := rfl
    have HLEN := Lib.hid (Lib.size_eq s)
    go_loopw [3, 5] (fun q _ wr => ∃ (p f j : Nat) (ar : Option Addr) (cr : Nat) (o : ByteArray), p ≤ s.size ∧ q = .slice ar (byteL o).length cr ∧ AppL EByte 1 5 wr w1.heap.size ar cr (byteL o) [] ∧ wr.heap[w1.heap.size + 1]? = some (.stringIter s p) ∧ j ≤ p ∧ j ≤ (runesT s).length ∧ o.size ≤ 1 + 12 * j ∧ s.size - p ≤ f ∧ Hid (o = ⟨#[34]⟩ ++ escF (runesT s) j) ∧ Hid ((runesT s).drop j = runesG f (s.data.toList.drop p)) ∧ Hid (Lib.validD (s.data.toList.drop p) = true) ∧ Below w1.heap.size w1 wr) (fun _ _ wr => s.size - wr.iterPos (w1.heap.size + 1))
    case atStart => exact ⟨0, s.size, 0, _, _, ⟨#[34]⟩, Nat.zero_le _, rfl, HA0.out, hI0, Nat.le_refl _, Nat.zero_le _, by omega, by omega, rfl, rfl, by rw [List.drop_zero]; exact HV.out, H0.out⟩
    case round =>
      obtain ⟨p, f, j, ar, cr, o, hp, rfl, happ, hIp, hjp, hjl, hos, hf, HO, HR, HVP, hb⟩ := hrel
      have hbs := hb.size
      have HA := Lib.hid happ; clear happ
      have hblen := byteL_len o
      by_cases hlt : p < s.size
      · obtain ⟨f', rfl⟩ : ∃ f', f = f' + 1 := ⟨f - 1, by omega⟩
        have hne : s.data.toList.drop p ≠ [] := by
          intro e
          have := congrArg List.length e
          simp only [List.length_drop, List.length_nil] at this; have := HLEN.out; omega
        have HG := Lib.hid (validD_gr _ hne)
        have HL := Lib.hid (grL_cases _ hne)
        have hz : (grL (s.data.toList.drop p)).2 ≠ 0 := by
          intro h
          have h1 := HG.out
          rw [if_pos h, HVP.out] at h1
          cases h1
        have hdec : Utf8.decode s p = grL (s.data.toList.drop p) := by
          rcases HL.out with h | h
          · exact absurd h.1 hz
          · rw [← Lib.decodeL_drop]; exact h.2.1
        have hk : (grL (s.data.toList.drop p)).2 ≤ s.size - p := by
          rcases HL.out with h | h
          · exact absurd h.1 hz
          · have := h.2.2.1; simp only [List.length_drop] at this; have := HLEN.out; omega
        have HVN := Lib.hid (show Lib.validD (s.data.toList.drop (p + (grL (s.data.toList.drop p)).2)) = true from by
          have h1 := HG.out
          rw [if_neg hz, HVP.out, List.drop_drop] at h1
          exact h1.symm)
        have hrc := HR.out
        rw [runesG_cons f' _ hne, List.drop_drop] at hrc
        have hjl2 : j < (runesT s).length := by
          rcases Nat.lt_or_ge j (runesT s).length with h | h
          · exact h
          · rw [List.drop_eq_nil_of_le h] at hrc; cases hrc
        rw [List.drop_eq_getElem_cons hjl2] at hrc
        injection hrc with hr1 hr2
        have HRN := Lib.hid hr2
        have HE := Lib.hid (show o ++ escT ((grL (s.data.toList.drop p)).1 : Int) = ⟨#[34]⟩ ++ escF (runesT s) (j + 1) from by rw [HO.out, escF_succ _ j hjl2, hr1, ByteArray.append_assoc])
        have hsm := grL_small (s.data.toList.drop p)
        have hnx : ∀ ty, (Instr.next (.pointer (some ⟨w1.heap.size + 1, 0, none⟩)) true ty).run Tryz.prog wr = .ok (.tuple #[.bool true, .int .i64 p, .int .i32 (grL (s.data.toList.drop p)).1]) (wr.iterAt (w1.heap.size + 1) s (p + (grL (s.data.toList.drop p)).2)) := fun ty => by
          rw [Lib.run_next_any_at wr (w1.heap.size + 1) s p ty hIp hlt, hdec]
        have hlk := (Array.getElem?_eq_some_iff.1 hIp).1
        have HIP := Lib.hid hIp
        have HZ := Lib.hid hz
        have hez := escT_size ((grL (s.data.toList.drop p)).1 : Int)
        clear HG HL hdec hne hr1 hr2 hz
        generalize grL (s.data.toList.drop p) = g at *
        have HA2 := Lib.hid (AppL.iter (p' := p + g.2) HA.out HIP.out)
        have hI2 := Lib.iterAt_heap wr (w1.heap.size + 1) s p (p + g.2) hIp
        have HB2 := Lib.hid (iterAt_below wr (w1.heap.size + 1) s (p + g.2) w1.heap.size (by omega))
        have hsz2 := iterAt_size wr (w1.heap.size + 1) s (p + g.2)
        have HI2 := Lib.hid hI2; clear hI2 hIp
        go_wp2_with (first | (go_at_call 242; refine (impl_EscapeOf _ _ ⟨by omega, by omega⟩).mono ?_; rintro e w5 ⟨rfl, hb5⟩; have hs5 := hb5.size; have HA5 := Lib.hid (HA2.out.agree EByte.elem (fun f hf => hb5.block f hf) (by omega)); have HI5 := Lib.hid ((hb5.block (w1.heap.size + 1) (by omega)).trans HI2.out); have HB5 := Lib.hid ((hb.trans HB2.out).trans (hb5.mono (by omega)))) | (at_builtin; refine wpList_appStr rfl _ _ 22 9 rfl Tryz.underlying22 Tryz.underlying9 info_Byte2 w1.heap.size ar cr (byteL o) (byteL_u8 o) (by first | rfl | (rw [hblen]; rfl)) HA5.out (by omega) (escT (g.1 : Int)) rfl (by rw [hblen]; omega) ?_; intro ar2 cr2 w6 happ6 hb6 hout6 hsz6))
        go_roundw
        case rel => exact ⟨p + g.2, f', j + 1, ar2, cr2, o ++ escT (g.1 : Int), by omega, by rw [byteL_len (o ++ _), ByteArray.size_append, byteL_len], by rw [byteL_append]; exact happ6, (hout6 (w1.heap.size + 1) (by omega) (AppL.notIter HA5.out HI5.out)).trans HI5.out, by have := HZ.out; omega, by omega, by rw [ByteArray.size_append]; omega, by have := HZ.out; omega, HE.out, HRN.out, HVN.out, HB5.out.trans hb6⟩
        case measure =>
          have e1 : w6.iterPos (w1.heap.size + 1) = p + g.2 := by
            unfold World.iterPos; rw [(hout6 (w1.heap.size + 1) (by omega) (AppL.notIter HA5.out HI5.out)).trans HI5.out]
          have e2 : wr.iterPos (w1.heap.size + 1) = p := by unfold World.iterPos; rw [HIP.out]
          rw [e1, e2]; have := HZ.out; omega
      · have hnx : ∀ ty, (Instr.next (.pointer (some ⟨w1.heap.size + 1, 0, none⟩)) true ty).run Tryz.prog wr = .ok (.tuple #[.bool false]) wr := fun ty => Lib.run_next_end_at wr (w1.heap.size + 1) s p ty hIp hlt
        have hpp : p = s.size := by omega
        have hje : j = (runesT s).length := by
          have h1 := HR.out
          rw [List.drop_eq_nil_of_le (show s.data.toList.length ≤ p from by have := HLEN.out; omega), runesG_nil] at h1
          have := List.drop_eq_nil_iff.1 h1
          omega
        have HE := Lib.hid (show o ++ ⟨#[34]⟩ = quoteT s from by rw [HD.out, HO.out, hje])
        clear hje hpp
        have HN := Lib.hid (HA.out.agree EByte.elem (fun f hf => (below1 wr (.cells #[.int .u8 34] 5)).block f hf) (by omega))
        go_wp2_with (at_builtin; refine wpList_appL EByte.elem rfl _ _ 22 rfl (.int .u8 0) 1 Tryz.underlying22 info_Byte2 rfl w1.heap.size ar cr (byteL o) [] (by first | rfl | (rw [hblen]; rfl)) HN.out (by simp; omega) wr.heap.size 0 1 1 [34] [] rfl rfl ⟨[], [], rfl, ⟨rfl, (Is.new wr #[.int .u8 34] 5).cell 0 rfl, ⟨by omega, by omega⟩⟩, rfl⟩ (by simp) (by omega) (by rw [hblen]; unfold maxLen; omega) (by rw [hblen]; omega) ?_; intro ar2 cr2 w6 happ6 hb6; have hcv := conv_bytes w6 w1.heap.size ar2 cr2 _ [] happ6; rw [← row34, ← byteL_append, byteL_str, byteL_len, ByteArray.size_append, z34] at hcv)
        go_ret
        exact ⟨ret_s HE.out, HB1.out.trans ((hb.trans (((below1 wr _).mono hbs).trans hb6)).mono HB1.out.size)⟩
  · have HD := Lib.hid (show quoteT s = ⟨#[]⟩ from if_neg hv)
    have HV := Lib.hid (show Lib.validD s.data.toList = false from by simpa using hv); clear hv
    go_enter Tryz.func198, Tryz.ntmps198
    go_wp2_with fail
    refine (impl_TextOk s _ (by omega) (hU _ (Below.refl _ _))).mono ?_
    rintro e w1 ⟨rfl, hb1⟩
    rw [HV.out]
    go_wp2_with fail
    go_ret
    exact ⟨ret_s HD.out.symm, hb1⟩
end Go.Proofs.YtggdenkmohnijaaGreatDoor
