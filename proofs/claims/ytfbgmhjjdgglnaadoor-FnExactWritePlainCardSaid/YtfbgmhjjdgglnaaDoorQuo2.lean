/- Contracts and lemmas for the proofs of this seat: Quo2. No condition beyond those stated. -/
import Derived.Test.YtfbgmhjjdgglnaaDoorRows
import Derived.WalkKit
import Derived.ProofKit
import Derived.OpenShut
import Derived.Handy
import Derived.Lib.Hide
import Derived.Lib.SmallJoins
import Derived.Laws.BytesArg
import Derived.Deep.RegionHeld3
import Derived.Deep.AppendLies
import Derived.Deep.QuietTactic
import Derived.BigQuiet
import Derived.Lib.AppendStr
import Derived.Lib.ValidAsc
import Derived.Lib.OthersKept
import Derived.Laws.RangeString
import Derived.Laws.RangeAny
import Derived.Test.YtfbgmhjjdgglnaaDoorBase
import Derived.Test.YtfbgmhjjdgglnaaDoorGen
import Derived.Test.YtfbgmhjjdgglnaaDoorKit
import Derived.Test.YtfbgmhjjdgglnaaDoorMark
import Derived.Test.YtfbgmhjjdgglnaaDoorApp
import Derived.Test.YtfbgmhjjdgglnaaDoorMarkV
import Derived.Test.YtfbgmhjjdgglnaaDoorLawVal
import Derived.Test.YtfbgmhjjdgglnaaDoorCopy
import Derived.Test.YtfbgmhjjdgglnaaDoorPathAt
import Derived.Test.YtfbgmhjjdgglnaaDoorPathAt2
import Derived.Test.YtfbgmhjjdgglnaaDoorSame2
import Derived.Test.YtfbgmhjjdgglnaaDoorOnce
import Derived.Test.YtfbgmhjjdgglnaaDoorKeepX
import Derived.Test.YtfbgmhjjdgglnaaDoorAppX
import Derived.Test.YtfbgmhjjdgglnaaDoorAppS
import Derived.Test.YtfbgmhjjdgglnaaDoorNamesT
import Derived.Test.YtfbgmhjjdgglnaaDoorShelf
import Derived.Test.YtfbgmhjjdgglnaaDoorTextF
import Derived.Test.YtfbgmhjjdgglnaaDoorValF
import Derived.Test.YtfbgmhjjdgglnaaDoorRune
import Derived.Test.YtfbgmhjjdgglnaaDoorRune2
import Derived.Test.YtfbgmhjjdgglnaaDoorHexT
import Derived.Test.YtfbgmhjjdgglnaaDoorPutR
import Derived.Test.YtfbgmhjjdgglnaaDoorEsc
import Derived.Test.YtfbgmhjjdgglnaaDoorQuo
namespace Go.Proofs.YtfbgmhjjdgglnaaDoor
open Go.ChangeShapes Go.WideShapes Go.ChangeAt Go.RowKit Go.Joins
set_option linter.unusedVariables false
set_option maxRecDepth 100000
theorem iterAt_other (w : World) (k : Nat) (s : ByteArray) (p f : Nat) (h : f ≠ k) : (w.iterAt k s p).heap[f]? = w.heap[f]? := by
  simp [World.iterAt, Ne.symm h]
theorem iterAt_size (w : World) (k : Nat) (s : ByteArray) (p : Nat) : (w.iterAt k s p).heap.size = w.heap.size := by
  simp [World.iterAt]
theorem iterAt_below (w : World) (k : Nat) (s : ByteArray) (p B : Nat) (h : B ≤ k) : Below B w (w.iterAt k s p) :=
  ⟨rfl, rfl, rfl, by rw [iterAt_size]; exact Nat.le_refl _, fun f hf => iterAt_other w k s p f (by omega)⟩
theorem AppL.iter {w : World} {rlo cap k p p' : Nat} {s : ByteArray} {e : TypeId} {a : Option Addr} {l : List Int} (h : AppL EByte 1 e w rlo a cap l []) (hk : w.heap[k]? = some (.stringIter s p)) : AppL EByte 1 e (w.iterAt k s p') rlo a cap l [] := by
  rcases h with h | ⟨g, cur, ha, h1, h3, h4, h5, h6, h7, h8⟩
  · exact Or.inl h
  · have hg : g ≠ k := by rintro rfl; rw [hk] at h3; cases h3
    exact Or.inr ⟨g, cur, ha, h1, (iterAt_other w k s p' g hg).trans h3, h4, h5, h6, h7.agree EByte.elem.loc l (Cells.of_block (iterAt_other w k s p' g hg) _ _) (fun f hf => by simp at hf), h8⟩
theorem AppL.notIter {w : World} {rlo cap k p : Nat} {s : ByteArray} {e : TypeId} {a : Option Addr} {l : List Int} (h : AppL EByte 1 e w rlo a cap l []) (hk : w.heap[k]? = some (.stringIter s p)) : ∀ j, (Value.slice a l.length cap).ownBlock = some j → k ≠ j := by
  intro j hj
  rcases h with ⟨rfl, rfl, rfl, _⟩ | ⟨g, cur, rfl, h1, h3, h4, h5, h6, h7, h8⟩
  · simp [Value.ownBlock] at hj
  · simp only [Value.ownBlock, Option.some.injEq] at hj
    subst hj
    rintro rfl; rw [hk] at h3; cases h3
theorem row34 : byteL ⟨#[34]⟩ = [34] := rfl
set_option maxHeartbeats 4000000 in
theorem impl_Quote (s : ByteArray) (w : World) (hs : s.size ≤ 1048576) (hU : UtfBelow w.heap.size w) :
    Calls Tryd.prog 130 #[.string s] w fun e w' => e = .returned (.string (quoteT s)) ∧ Below w.heap.size w w' := by
  by_cases hv : Lib.validD s.data.toList = true
  · have HD := Lib.hid (show quoteT s = (⟨#[34]⟩ ++ escF (runesT s) (runesT s).length) ++ ⟨#[34]⟩ from if_pos hv)
    have hlr : (runesT s).length ≤ 1048576 := by have := runesG_len s.size s.data.toList; unfold runesT; omega
    have HV := Lib.hid hv; clear hv
    go_enter Tryd.func130, Tryd.ntmps130
    go_wp2_with fail
    refine (impl_TextOk s _ (by omega) (hU _ (Below.refl _ _))).mono ?_
    rintro e w1 ⟨rfl, hb1⟩
    rw [HV.out]
    have HB1 := Lib.hid hb1; clear hb1
    have hs1 := HB1.out.size
    go_wp2_with fail
    have h0 : AppL EByte 1 5 (w1.alloc (.cells #[.int .u8 34] 5)) w1.heap.size (some ⟨w1.heap.size, 0, none⟩) 1 [34] [] :=
      Or.inr ⟨w1.heap.size, #[.int .u8 34], rfl, Nat.le_refl _, heap_alloc_new w1 _, by simp, by simp [maxLen], rfl, ⟨[], [], rfl, ⟨rfl, (Is.new w1 #[.int .u8 34] 5).cell 0 rfl, ⟨by omega, by omega⟩⟩, rfl⟩, by simp⟩
    generalize hW : (w1.alloc (.cells #[.int .u8 34] 5)).iter s 0 = W0
    have HA0 := Lib.hid (show AppL EByte 1 5 W0 w1.heap.size (some ⟨w1.heap.size, 0, none⟩) 1 [34] [] from by subst hW; exact h0.agree EByte.elem (fun f hf => (below1 (w1.alloc (.cells #[.int .u8 34] 5)) (.stringIter s 0)).block f hf) (by simp))
    have hI0 : W0.heap[w1.heap.size + 1]? = some (.stringIter s 0) := by
      subst hW
      have := World.iter_heap (w1.alloc (.cells #[.int .u8 34] 5)) s 0
      simpa using this
    have H0 := Lib.hid (show Below w1.heap.size w1 W0 from by subst hW; exact below2 _ _ _)
    have hsW : W0.heap.size = w1.heap.size + 2 := by subst hW; simp [World.iter]
    clear hW h0
    have z34 : (⟨#[34]⟩ : ByteArray).size = 1 := rfl
    have HLEN := Lib.hid (Lib.size_eq s)
    go_loopw [3, 5] (fun q _ wr => ∃ (p f j : Nat) (ar : Option Addr) (cr : Nat) (o : ByteArray), p ≤ s.size ∧ q = .slice ar (byteL o).length cr ∧ AppL EByte 1 5 wr w1.heap.size ar cr (byteL o) [] ∧ wr.heap[w1.heap.size + 1]? = some (.stringIter s p) ∧ j ≤ p ∧ j ≤ (runesT s).length ∧ o.size ≤ 1 + 12 * j ∧ s.size - p ≤ f ∧ Hid (o = ⟨#[34]⟩ ++ escF (runesT s) j) ∧ Hid ((runesT s).drop j = runesG f (s.data.toList.drop p)) ∧ Hid (Lib.validD (s.data.toList.drop p) = true) ∧ Below w1.heap.size w1 wr) (fun _ _ wr => s.size - wr.iterPos (w1.heap.size + 1))
    case atStart => exact ⟨0, s.size, 0, _, _, ⟨#[34]⟩, Nat.zero_le _, rfl, HA0.out, hI0, Nat.le_refl _, Nat.zero_le _, by omega, by omega, rfl, rfl, by rw [List.drop_zero]; exact HV.out, H0.out⟩
    case round =>
      obtain ⟨p, f, j, ar, cr, o, hp, rfl, happ, hIp, hjp, hjl, hos, hf, HO, HR, HVP, hb⟩ := hrel
      have hbs := hb.size
      have HA := Lib.hid happ; clear happ
      have hblen := byteL_len o
      by_cases hlt : p < s.size
      · obtain ⟨f', rfl⟩ : ∃ f', f = f' + 1 := ⟨f - 1, by omega⟩
        have hne : s.data.toList.drop p ≠ [] := by
          intro e
          have := congrArg List.length e
          simp only [List.length_drop, List.length_nil] at this; have := HLEN.out; omega
        have HG := Lib.hid (validD_gr _ hne)
        have HL := Lib.hid (grL_cases _ hne)
        have hz : (grL (s.data.toList.drop p)).2 ≠ 0 := by
          intro h
          have h1 := HG.out
          rw [if_pos h, HVP.out] at h1
          cases h1
        have hdec : Utf8.decode s p = grL (s.data.toList.drop p) := by
          rcases HL.out with h | h
          · exact absurd h.1 hz
          · rw [← Lib.decodeL_drop]; exact h.2.1
        have hk : (grL (s.data.toList.drop p)).2 ≤ s.size - p := by
          rcases HL.out with h | h
          · exact absurd h.1 hz
          · have := h.2.2.1; simp only [List.length_drop] at this; have := HLEN.out; omega
        have HVN := Lib.hid (show Lib.validD (s.data.toList.drop (p + (grL (s.data.toList.drop p)).2)) = true from by
          have h1 := HG.out
          rw [if_neg hz, HVP.out, List.drop_drop] at h1
          exact h1.symm)
        have hrc := HR.out
        rw [runesG_cons f' _ hne, List.drop_drop] at hrc
        have hjl2 : j < (runesT s).length := by
          rcases Nat.lt_or_ge j (runesT s).length with h | h
          · exact h
          · rw [List.drop_eq_nil_of_le h] at hrc; cases hrc
        rw [List.drop_eq_getElem_cons hjl2] at hrc
        injection hrc with hr1 hr2
        have HRN := Lib.hid hr2
        have HE := Lib.hid (show o ++ escT ((grL (s.data.toList.drop p)).1 : Int) = ⟨#[34]⟩ ++ escF (runesT s) (j + 1) from by rw [HO.out, escF_succ _ j hjl2, hr1, ByteArray.append_assoc])
        have hsm := grL_small (s.data.toList.drop p)
        have hnx : ∀ ty, (Instr.next (.pointer (some ⟨w1.heap.size + 1, 0, none⟩)) true ty).run Tryd.prog wr = .ok (.tuple #[.bool true, .int .i64 p, .int .i32 (grL (s.data.toList.drop p)).1]) (wr.iterAt (w1.heap.size + 1) s (p + (grL (s.data.toList.drop p)).2)) := fun ty => by
          rw [Lib.run_next_any_at wr (w1.heap.size + 1) s p ty hIp hlt, hdec]
        have hlk := (Array.getElem?_eq_some_iff.1 hIp).1
        have HIP := Lib.hid hIp
        have HZ := Lib.hid hz
        have hez := escT_size ((grL (s.data.toList.drop p)).1 : Int)
        clear HG HL hdec hne hr1 hr2 hz
        generalize grL (s.data.toList.drop p) = g at *
        have HA2 := Lib.hid (AppL.iter (p' := p + g.2) HA.out HIP.out)
        have hI2 := Lib.iterAt_heap wr (w1.heap.size + 1) s p (p + g.2) hIp
        have HB2 := Lib.hid (iterAt_below wr (w1.heap.size + 1) s (p + g.2) w1.heap.size (by omega))
        have hsz2 := iterAt_size wr (w1.heap.size + 1) s (p + g.2)
        have HI2 := Lib.hid hI2; clear hI2 hIp
        go_wp2_with (first | (go_at_call 143; refine (impl_EscapeOf _ _ ⟨by omega, by omega⟩).mono ?_; rintro e w5 ⟨rfl, hb5⟩; have hs5 := hb5.size; have HA5 := Lib.hid (HA2.out.agree EByte.elem (fun f hf => hb5.block f hf) (by omega)); have HI5 := Lib.hid ((hb5.block (w1.heap.size + 1) (by omega)).trans HI2.out); have HB5 := Lib.hid ((hb.trans HB2.out).trans (hb5.mono (by omega)))) | (at_builtin; refine wpList_appStr rfl _ _ 82 9 rfl Tryd.underlying82 Tryd.underlying9 info_Byte2 w1.heap.size ar cr (byteL o) (byteL_u8 o) (by first | rfl | (rw [hblen]; rfl)) HA5.out (by omega) (escT (g.1 : Int)) rfl (by rw [hblen]; omega) ?_; intro ar2 cr2 w6 happ6 hb6 hout6 hsz6))
        go_roundw
        case rel => exact ⟨p + g.2, f', j + 1, ar2, cr2, o ++ escT (g.1 : Int), by omega, by rw [byteL_len (o ++ _), ByteArray.size_append, byteL_len], by rw [byteL_append]; exact happ6, (hout6 (w1.heap.size + 1) (by omega) (AppL.notIter HA5.out HI5.out)).trans HI5.out, by have := HZ.out; omega, by omega, by rw [ByteArray.size_append]; omega, by have := HZ.out; omega, HE.out, HRN.out, HVN.out, HB5.out.trans hb6⟩
        case measure =>
          have e1 : w6.iterPos (w1.heap.size + 1) = p + g.2 := by
            unfold World.iterPos; rw [(hout6 (w1.heap.size + 1) (by omega) (AppL.notIter HA5.out HI5.out)).trans HI5.out]
          have e2 : wr.iterPos (w1.heap.size + 1) = p := by unfold World.iterPos; rw [HIP.out]
          rw [e1, e2]; have := HZ.out; omega
      · have hnx : ∀ ty, (Instr.next (.pointer (some ⟨w1.heap.size + 1, 0, none⟩)) true ty).run Tryd.prog wr = .ok (.tuple #[.bool false]) wr := fun ty => Lib.run_next_end_at wr (w1.heap.size + 1) s p ty hIp hlt
        have hpp : p = s.size := by omega
        have hje : j = (runesT s).length := by
          have h1 := HR.out
          rw [List.drop_eq_nil_of_le (show s.data.toList.length ≤ p from by have := HLEN.out; omega), runesG_nil] at h1
          have := List.drop_eq_nil_iff.1 h1
          omega
        have HE := Lib.hid (show o ++ ⟨#[34]⟩ = quoteT s from by rw [HD.out, HO.out, hje])
        clear hje hpp
        have HN := Lib.hid (HA.out.agree EByte.elem (fun f hf => (below1 wr (.cells #[.int .u8 34] 5)).block f hf) (by omega))
        go_wp2_with (at_builtin; refine wpList_appL EByte.elem rfl _ _ 82 rfl (.int .u8 0) 1 Tryd.underlying82 info_Byte2 rfl w1.heap.size ar cr (byteL o) [] (by first | rfl | (rw [hblen]; rfl)) HN.out (by simp; omega) wr.heap.size 0 1 1 [34] [] rfl rfl ⟨[], [], rfl, ⟨rfl, (Is.new wr #[.int .u8 34] 5).cell 0 rfl, ⟨by omega, by omega⟩⟩, rfl⟩ (by simp) (by omega) (by rw [hblen]; unfold maxLen; omega) (by rw [hblen]; omega) ?_; intro ar2 cr2 w6 happ6 hb6; have hcv := conv_bytes w6 w1.heap.size ar2 cr2 _ [] happ6; rw [← row34, ← byteL_append, byteL_str, byteL_len, ByteArray.size_append, z34] at hcv)
        go_ret
        exact ⟨ret_s HE.out, HB1.out.trans ((hb.trans (((below1 wr _).mono hbs).trans hb6)).mono HB1.out.size)⟩
  · have HD := Lib.hid (show quoteT s = ⟨#[]⟩ from if_neg hv)
    have HV := Lib.hid (show Lib.validD s.data.toList = false from by simpa using hv); clear hv
    go_enter Tryd.func130, Tryd.ntmps130
    go_wp2_with fail
    refine (impl_TextOk s _ (by omega) (hU _ (Below.refl _ _))).mono ?_
    rintro e w1 ⟨rfl, hb1⟩
    rw [HV.out]
    go_wp2_with fail
    go_ret
    exact ⟨ret_s HD.out.symm, hb1⟩
end Go.Proofs.YtfbgmhjjdgglnaaDoor
