/- Texts of this proof, merged: MarkP, Pack1, MarkB. No condition beyond what each theorem states. -/
import Derived.Test.YtohfljaaaojjmaaGreatDoorRows
import Derived.WalkKit
import Derived.ProofKit
import Derived.OpenShut
import Derived.Handy
import Derived.Lib.Hide
import Derived.Lib.SmallJoins
import Derived.Laws.Bits64
import Derived.Laws.Bits64b
import Derived.Test.YtohfljaaaojjmaaGreatDoorZK1
import Derived.Test.YtohfljaaaojjmaaGreatDoorZK2
import Derived.Test.YtohfljaaaojjmaaGreatDoorZK5
import Derived.Test.YtohfljaaaojjmaaGreatDoorZK6
import Derived.Test.YtohfljaaaojjmaaGreatDoorZK4
import Derived.Test.YtohfljaaaojjmaaGreatDoorZK7
import Derived.Test.YtohfljaaaojjmaaGreatDoorZK9
import Derived.Deep.RegionHeld3
import Derived.Deep.QuietTactic
import Derived.BigQuiet
import Derived.Deep.CutBlock
import Derived.Deep.DeepCutAuto
import Derived.Lib.AppendStr
import Derived.Lib.AppendZeros
import Derived.Test.YtohfljaaaojjmaaGreatDoorZK3
import Derived.Lib.BitFns
import Derived.Test.YtohfljaaaojjmaaGreatDoorShelf
set_option linter.unusedSimpArgs false
set_option linter.unnecessarySimpa false
namespace Go.Proofs.YtohfljaaaojjmaaGreatDoor
open Go.ChangeShapes Go.WideShapes Go.ChangeAt Go.RowKit Go.Joins
set_option linter.unusedVariables false
set_option maxRecDepth 100000
/-! ### Marks as bytes: no program in sight -/
/-- How many bytes a number below 0 takes. -/
def intW (n : Int) : Nat := if -128 ≤ n then 1 else if -32768 ≤ n then 2 else if -2147483648 ≤ n then 4 else 8
/-- The bits of a width. -/
def bitsW (w : Int) : Int := if w = 1 then 1 else if w = 2 then 2 else if w = 4 then 3 else 4
def putIntL (n : Int) : List Int :=
  if -32 ≤ n ∧ n ≤ 127 then [n % 256] else if 0 ≤ n then (203 + bitsW (widthD n)) :: bigL n (widthD n).toNat else (207 + bitsW (intW n)) :: bigL n (intW n)
def putManyL (n few base short long : Int) : List Int :=
  if n < few then [base + n] else if n < 256 ∧ 0 < short then short :: bigL n 1 else long :: bigL n 2
def markL (k n : Int) : List Int :=
  if markOkD k n = false then [] else if k = 1 then [192] else if k = 2 then [194 + n] else if k = 3 then putIntL n else if k = 4 then 202 :: bigL n 4
  else if k = 5 then [212, 1, n] else if k = 7 then putManyL n 32 160 217 218 else if k = 8 then putManyL n 0 0 196 197 else if k = 9 then putManyL n 16 144 0 220 else putManyL n 16 128 0 222
mutual
/-- A tree's bytes in the packed format. -/
def packK : T → List Int
  | .mk k n x s l =>
    if markOkD (markForD (.mk k n x s l)).1 (markForD (.mk k n x s l)).2 = false then []
    else markL (markForD (.mk k n x s l)).1 (markForD (.mk k n x s l)).2 ++ (if k = 7 ∨ k = 8 then byteL s else if k = 9 ∨ k = 10 then packKs l else [])
def packKs : List T → List Int
  | [] => []
  | t :: r => packK t ++ packKs r
end
theorem packKs_append (a b : List T) : packKs (a ++ b) = packKs a ++ packKs b := by
  induction a with
  | nil => rfl
  | cons t r ih => rw [List.cons_append, packKs, packKs, ih, List.append_assoc]
theorem packKs_succ (l : List T) (j : Nat) (h : j < l.length) : packKs (l.take (j + 1)) = packKs (l.take j) ++ packK l[j] := by
  rw [take_snoc l j h, packKs_append]; simp [packKs]
theorem putIntL_len (n : Int) : (putIntL n).length ≤ 9 := by
  unfold putIntL
  split
  · simp
  split
  · rw [List.length_cons, bigL_len]; unfold widthD; rw [if_neg (by omega)]; repeat' split
    all_goals simp
  · rw [List.length_cons, bigL_len]; unfold intW; repeat' split
    all_goals simp
theorem putManyL_len (n few base short long : Int) : (putManyL n few base short long).length ≤ 3 := by
  unfold putManyL
  split
  · simp
  split
  · rw [List.length_cons, bigL_len]; omega
  · rw [List.length_cons, bigL_len]; omega
theorem markL_len (k n : Int) : (markL k n).length ≤ 9 := by
  have h1 := putIntL_len n
  have h2 := putManyL_len n 32 160 217 218
  have h3 := putManyL_len n 0 0 196 197
  have h4 := putManyL_len n 16 144 0 220
  have h5 := putManyL_len n 16 128 0 222
  unfold markL
  repeat' split
  all_goals first
    | omega
    | (simp; done)
    | (rw [List.length_cons, bigL_len]; omega)
theorem packK_len : ∀ t : T, (packK t).length ≤ 9 + 10 * T.sz t := by
  apply T.ind
  intro k n x s l ih
  have hl : ∀ r : List T, (∀ t ∈ r, t ∈ l) → (packKs r).length ≤ 10 * T.szL r := by
    intro r
    induction r with
    | nil => intro _; simp [packKs]
    | cons t r ihr =>
      intro hm
      have h1 := ih t (hm t (List.mem_cons_self ..))
      have h2 := ihr (fun u hu => hm u (List.mem_cons_of_mem _ hu))
      rw [packKs, List.length_append]; simp only [T.szL]; omega
  have hl2 := hl l (fun _ h => h)
  have hb := byteL_len s
  have hm := markL_len (markForD (.mk k n x s l)).1 (markForD (.mk k n x s l)).2
  rw [packK]
  simp only [T.sz]
  split
  · simp
  · rw [List.length_append]
    split
    · omega
    split
    · omega
    · simp only [List.length_nil]; omega
theorem packKs_len (l : List T) : (packKs l).length ≤ 10 * T.szL l := by
  induction l with
  | nil => simp [packKs]
  | cons t r ih => rw [packKs, List.length_append]; simp only [T.szL]; have := packK_len t; omega
theorem bigL_mod (n m : Int) : ∀ w : Nat, m % 256 ^ w = n % 256 ^ w → bigL m w = bigL n w
  | 0, _ => rfl
  | w + 1, h => by
    have hp : (0 : Int) < 256 ^ w := Int.pow_pos (by decide)
    have h2 : m % 256 ^ w = n % 256 ^ w := by
      have e : (256 : Int) ^ (w + 1) = 256 ^ w * 256 := Int.pow_succ ..
      have := congrArg (fun z => z % (256 : Int) ^ w) h
      simp only [e, Int.mul_emod_right, Int.emod_emod_of_dvd _ (Int.dvd_mul_right ((256 : Int) ^ w) 256)] at this
      exact this
    have h3 : m / 256 ^ w % 256 = n / 256 ^ w % 256 := by
      have e : (256 : Int) ^ (w + 1) = 256 ^ w * 256 := Int.pow_succ ..
      rw [e] at h
      have em := Int.emod_def m (256 ^ w * 256)
      have en := Int.emod_def n (256 ^ w * 256)
      have a1 : m = 256 ^ w * (256 * (m / (256 ^ w * 256))) + m % (256 ^ w * 256) := by rw [em, ← Int.mul_assoc]; omega
      have a2 : n = 256 ^ w * (256 * (n / (256 ^ w * 256))) + n % (256 ^ w * 256) := by rw [en, ← Int.mul_assoc]; omega
      have b1 : m / 256 ^ w = 256 * (m / (256 ^ w * 256)) + (m % (256 ^ w * 256)) / 256 ^ w := by
        conv => lhs; rw [a1]
        rw [Int.add_comm, Int.add_mul_ediv_left _ _ (by omega)]; omega
      have b2 : n / 256 ^ w = 256 * (n / (256 ^ w * 256)) + (n % (256 ^ w * 256)) / 256 ^ w := by
        conv => lhs; rw [a2]
        rw [Int.add_comm, Int.add_mul_ediv_left _ _ (by omega)]; omega
      rw [b1, b2, h]; omega
    rw [bigL, bigL, h3, bigL_mod n m w h2]
theorem and255z (x : Int) (h0 : -9223372036854775808 ≤ x) (h1 : x ≤ 9223372036854775807) : bits .and .i64 x 255 = x % 256 := by
  have h2 : (BitVec.ofInt 64 x).toNat % 256 = (x % 256).toNat := by
    rw [BitVec.toNat_ofInt]; omega
  show IntKind.i64.wrap ((BitVec.ofInt 64 x &&& BitVec.ofInt 64 255).toNat : Int) = _
  rw [BitVec.toNat_and, show (BitVec.ofInt 64 255).toNat = 255 from by decide, Nat.and_two_pow_sub_one_eq_mod _ 8, Go.IntWalk.i64_left]
  rw [Go.IntWalk.wrap64_in _ ⟨by omega, by omega⟩]
  omega
theorem and65535z (x : Int) (h0 : -9223372036854775808 ≤ x) (h1 : x ≤ 9223372036854775807) : bits .and .i64 x 65535 = x % 65536 := by
  have h2 : (BitVec.ofInt 64 x).toNat % 65536 = (x % 65536).toNat := by
    rw [BitVec.toNat_ofInt]; omega
  show IntKind.i64.wrap ((BitVec.ofInt 64 x &&& BitVec.ofInt 64 65535).toNat : Int) = _
  rw [BitVec.toNat_and, show (BitVec.ofInt 64 65535).toNat = 65535 from by decide, Nat.and_two_pow_sub_one_eq_mod _ 16, Go.IntWalk.i64_left]
  rw [Go.IntWalk.wrap64_in _ ⟨by omega, by omega⟩]
  omega
theorem and32z (x : Int) (h0 : -9223372036854775808 ≤ x) (h1 : x ≤ 9223372036854775807) : bits .and .i64 x 4294967295 = x % 4294967296 := by
  have h2 : (BitVec.ofInt 64 x).toNat % 4294967296 = (x % 4294967296).toNat := by
    rw [BitVec.toNat_ofInt]; omega
  show IntKind.i64.wrap ((BitVec.ofInt 64 x &&& BitVec.ofInt 64 4294967295).toNat : Int) = _
  rw [BitVec.toNat_and, show (BitVec.ofInt 64 4294967295).toNat = 4294967295 from by decide, Nat.and_two_pow_sub_one_eq_mod _ 32, Go.IntWalk.i64_left]
  rw [Go.IntWalk.wrap64_in _ ⟨by omega, by omega⟩]
  omega
/-- Bytes of a row just laid. -/
theorem row_laid (W : World) (e : TypeId) : ∀ (vs pre : List Int), (∀ v ∈ vs, U8 v) → Row EByte 1 (W.alloc (.cells ((pre ++ vs).map (Value.int .u8)).toArray e)) W.heap.size pre.length vs []
  | [], _, _ => rfl
  | v :: r, pre, hu => by
    refine ⟨[], [], rfl, ⟨rfl, ?_, hu v (List.mem_cons_self ..)⟩, ?_⟩
    · exact (Is.new W _ e).cell _ (by simp)
    · have := row_laid W e r (pre ++ [v]) (fun x hx => hu x (List.mem_cons_of_mem _ hx))
      rw [List.append_assoc] at this
      simpa using this
section
variable {e : TypeId}
/-- append of bytes just laid. -/
theorem wpList_bytes {P : Program} {W : World} {cs : Array Value} {ops : Array Oper} {rest : List Oper} {o : Oper} {act : Act} {Q : Exit → Act → World → Prop} (hgd : o.guard = none) (s x : Operand) (t : TypeId)
    (ho : o.op = .call { callee := .builtin .append, args := #[s, x], argTypes := #[t, t] }) (ht : P.underlying t = some (.slice e)) (hinfo : (P.info? e).map (fun i => (i.zero, i.size, i.bytes)) = some (some (.int .u8 0), 1, 1))
    (rlo : Nat) (a : Option Addr) (len cap : Nat) (l : List Int) (hs : act.eval s = .slice a len cap) (hlen : len = l.length) (happ : AppL EByte 1 e W rlo a cap l []) (hlo : rlo ≤ W.heap.size) (vs : List Int) (g m c : Nat)
    (hx : act.eval x = .slice (some ⟨g, 0, none⟩) m c) (hg : g = W.heap.size) (hm : m = vs.length) (hcs : cs = (vs.map (Value.int .u8)).toArray) (hu : ∀ v ∈ vs, U8 v) (hne : 0 < vs.length) (hz : l.length + vs.length ≤ 1099511627776)
    (h : ∀ a' cap' w', AppL EByte 1 e w' rlo a' cap' (l ++ vs) [] → Below rlo W w' → wpList P ops Q rest (act.put o.dst (.slice a' (l ++ vs).length cap')) w') : wpList P ops Q (o :: rest) act (W.alloc (.cells cs e)) := by
  subst hlen hm hcs hg
  have hr := row_laid W e vs [] hu
  rw [List.nil_append] at hr
  exact wpList_appX EByte.elem hgd s x t ho (.int .u8 0) 1 ht hinfo rfl rlo a cap l [] hs (happ.agree EByte.elem (fun f hf => (below1 W _).block f hf) hlo) (by rw [size_alloc]; omega) W.heap.size 0 vs.length c vs [] hx rfl hr (by simp) hne (by unfold maxLen; omega) (by omega) (fun a' cap' w' h1 h2 _ _ _ => h a' cap' w' h1 (((below1 W _).mono hlo).trans h2))
end
end Go.Proofs.YtohfljaaaojjmaaGreatDoor
namespace Go.Proofs.YtohfljaaaojjmaaGreatDoor
open Go.ChangeShapes Go.WideShapes Go.ChangeAt Go.RowKit Go.Joins
set_option linter.unusedVariables false
set_option maxRecDepth 100000
section
variable {α : Type} {E : World → Nat → Nat → α → List Nat → Prop} {n : Nat} {e : TypeId}
theorem AppL.agreeB (hE : Elem E n) {w w' : World} {rlo cap : Nat} {a : Option Addr} {l : List α} (h : AppL E n e w rlo a cap l []) (hw : ∀ f, rlo ≤ f → f < w.heap.size → w'.heap[f]? = w.heap[f]?) : AppL E n e w' rlo a cap l [] := by
  rcases h with h | ⟨g, cur, ha, h1, h3, h4, h5, h6, h7, h8⟩
  · exact Or.inl h
  · have hg : g < w.heap.size := (Array.getElem?_eq_some_iff.1 h3).1
    exact Or.inr ⟨g, cur, ha, h1, (hw g h1 hg).trans h3, h4, h5, h6, h7.agree hE.loc l (Cells.of_block (hw g h1 hg) _ _) (fun f hf => by cases hf), h8⟩
end
theorem impl_PutBigL (len : Nat) (b : List Int) (n k : Int) (a : Option Addr) (cap B : Nat) (w : World) (hl : len = b.length) (hr : Rd EByte 1 w B a cap b) (hf : fitW n k) (hn : n ≤ 9223372036854775807) (hz : b.length ≤ 1099511627776) (hB : B ≤ w.heap.size) :
    Calls Tryz.prog 170 #[.slice a len cap, .int .i64 n, .int .i64 k] w fun e w' => ∃ a' cap', e = .returned (.slice a' (b ++ bigL n k.toNat).length cap') ∧ AppL EByte 1 5 w' w.heap.size a' cap' (b ++ bigL n k.toNat) [] ∧ Below w.heap.size w w' := by
  subst hl; exact impl_PutBig b n k a cap B w hr hf hn hz hB
end Go.Proofs.YtohfljaaaojjmaaGreatDoor
namespace Go.Proofs.YtohfljaaaojjmaaGreatDoor
open Go.ChangeShapes Go.WideShapes Go.ChangeAt Go.RowKit Go.Joins
set_option linter.unusedVariables false
set_option maxRecDepth 100000
def lbW (x : Int) : Int := if x = 0 then 0 else if x = 1 then 1 else if x = 2 then 2 else if x = 4 then 3 else 4
set_option maxHeartbeats 2000000 in
theorem spec_BitsOf (n : Int) (w : World) (hn : n = 1 ∨ n = 2 ∨ n = 4 ∨ n = 8) :
    Calls Tryz.prog 172 #[.int .i64 n] w fun e w' => e = .returned (.int .i64 (bitsW n)) ∧ w' = w := by
  have DN := Lib.hid (show decide (0 ≤ n ∧ n ≤ 1000000000000000) = true from decide_eq_true (by omega))
  have HT := Lib.hid (show bitsW n = lbW n from by rcases hn with rfl | rfl | rfl | rfl <;> rfl)
  rw [HT.out]
  have HNN := Lib.hid hn
  clear hn
  go_enter Tryz.func172, Tryz.ntmps172
  go_wp2_with (go_at_call 59; refine (spec_l1InE _ _ _ _).mono ?_; rintro ee w2 ⟨rfl, hw2⟩; have hw3 := hw2.symm; subst hw3; rw [DN.out])
  go_loopw [3, 4] (fun a x wr => ∃ (xv c : Int), (xv = 0 ∨ xv = 1 ∨ xv = 2 ∨ xv = 4 ∨ xv = 8) ∧ x = .int .i64 xv ∧ a = .int .i64 c ∧ c = lbW n - lbW xv ∧ wr = w) (fun _ x _ => (intOf x).toNat)
  case atStart => exact ⟨n, 0, by have := HNN.out; omega, rfl, rfl, by omega, rfl⟩
  case round =>
    obtain ⟨xv, c, hx, rfl, rfl, hc, hw⟩ := hrel
    subst hw
    have hl : lbW n = 1 ∨ lbW n = 2 ∨ lbW n = 3 ∨ lbW n = 4 := by rcases HNN.out with h | h | h | h <;> (rw [h]; simp [lbW])
    obtain ⟨L, hL⟩ : ∃ L, lbW n = L := ⟨_, rfl⟩
    rw [hL] at hc hl ⊢
    rcases hx with rfl | rfl | rfl | rfl | rfl
    · have hc2 : c = L := by rw [hc]; simp [lbW]
      clear hc
      go_wp2_with fail
      go_ret
      exact ⟨ret_i (by rw [hL, hc2]), rfl⟩
    · have hc2 : c + 1 = L - lbW 0 := by rw [hc]; simp [lbW]
      have hcb : -4 ≤ c ∧ c ≤ 4 := by simp [lbW] at hc; omega
      obtain ⟨hb1, hb2⟩ := hcb
      clear hc
      go_wp2_with fail
      go_roundw
      case rel => exact ⟨0, c + 1, by omega, rfl, by first | rfl | go_num, hc2, by first | rfl | trivial⟩
      case measure => simp [intOf]
    · have hc2 : c + 1 = L - lbW 1 := by rw [hc]; simp [lbW]; omega
      have hcb : -4 ≤ c ∧ c ≤ 4 := by simp [lbW] at hc; omega
      obtain ⟨hb1, hb2⟩ := hcb
      clear hc
      go_wp2_with fail
      go_roundw
      case rel => exact ⟨1, c + 1, by omega, rfl, by first | rfl | go_num, hc2, by first | rfl | trivial⟩
      case measure => simp [intOf]
    · have hc2 : c + 1 = L - lbW 2 := by rw [hc]; simp [lbW]; omega
      have hcb : -4 ≤ c ∧ c ≤ 4 := by simp [lbW] at hc; omega
      obtain ⟨hb1, hb2⟩ := hcb
      clear hc
      go_wp2_with fail
      go_roundw
      case rel => exact ⟨2, c + 1, by omega, rfl, by first | rfl | go_num, hc2, by first | rfl | trivial⟩
      case measure => simp [intOf]
    · have hc2 : c + 1 = L - lbW 4 := by rw [hc]; simp [lbW]; omega
      have hcb : -4 ≤ c ∧ c ≤ 4 := by simp [lbW] at hc; omega
      obtain ⟨hb1, hb2⟩ := hcb
      clear hc
      go_wp2_with fail
      go_roundw
      case rel => exact ⟨4, c + 1, by omega, rfl, by first | rfl | go_num, hc2, by first | rfl | trivial⟩
      case measure => simp [intOf]
theorem impl_BitsOf (n : Int) (w : World) (hn : n = 1 ∨ n = 2 ∨ n = 4 ∨ n = 8) :
    Calls Tryz.prog 195 #[.int .i64 n] w fun e w' => e = .returned (.int .i64 (bitsW n)) ∧ w' = w := by
  have DN := Lib.hid (show decide (0 ≤ n ∧ n ≤ 1000000000000000) = true from decide_eq_true (by omega))
  rcases hn with rfl | rfl | rfl | rfl
  all_goals
    go_enter Tryz.func195, Tryz.ntmps195
    go_wp2_with (go_at_call 104; refine (impl_withinE _ _ _ _).mono ?_; rintro ee w2 ⟨rfl, rfl⟩; rw [DN.out])
    refine (Tryz.bits_Len _ _ (by decide) (by decide)).mono ?_
    rintro ee w2 ⟨rfl, rfl⟩
    go_wp2_with fail
    go_ret
    exact ⟨rfl, rfl⟩
set_option maxHeartbeats 4000000 in
theorem spec_l15Len (b : List Int) (n few base short long : Int) (a : Option Addr) (cap rlo : Nat) (w : World) (happ : AppL EByte 1 5 w rlo a cap b []) (hlo : rlo ≤ w.heap.size) (hz : b.length ≤ 1073741824) (hn : 0 ≤ n ∧ n ≤ 65535)
    (hf : n < few → 0 ≤ base + n ∧ base + n ≤ 255) (hs : 0 ≤ short ∧ short ≤ 255) (hl : 0 ≤ long ∧ long ≤ 255) (hb : 0 ≤ base ∧ base ≤ 255) :
    Calls Tryz.prog 126 #[.slice a b.length cap, .int .i64 n, .int .i64 base, .int .i64 few, .int .i64 short, .int .i64 long] w fun e w' => ∃ a' cap', e = .returned (.slice a' (b ++ putManyL n few base short long).length cap') ∧ AppL EByte 1 5 w' rlo a' cap' (b ++ putManyL n few base short long) [] ∧ Below rlo w w' := by
  have HA := Lib.hid happ
  obtain ⟨hn0, hn1⟩ := hn
  obtain ⟨hs0, hs1⟩ := hs
  obtain ⟨hl0, hl1⟩ := hl
  obtain ⟨hb0, hb1⟩ := hb
  clear happ
  by_cases h1 : n < few
  · obtain ⟨f0, f1⟩ := hf h1
    have HE := Lib.hid (show putManyL n few base short long = [base + n] from if_pos h1)
    have hwu : IntKind.u8.wrap (base + n) = base + n := by rw [IntKind.wrap_u8]; omega
    have HU : Hid (∀ v ∈ [base + n], U8 v) := Lib.hid (by intro v hv; rw [List.mem_singleton] at hv; subst hv; unfold U8; omega)
    go_enter Tryz.func126, Tryz.ntmps126
    go_wp2_with (at_builtin; refine wpList_bytes rfl _ _ 22 rfl Tryz.underlying22 info_Byte2 rlo a _ cap b rfl rfl HA.out hlo [base + n] _ 1 1 rfl (by rfl) rfl (by first | rfl | simp [hwu]) HU.out (by simp) (by simp; omega) ?_; intro a2 c2 w2 happ2 hb2)
    go_ret
    exact ⟨a2, c2, ret_sl (by rw [HE.out]; first | done | rfl | (simp [bigL_len]; done) | (simp [bigL_len]; omega)), by rw [HE.out]; exact happ2, hb2⟩
  by_cases h2 : n < 256 ∧ 0 < short
  · have HE := Lib.hid (show putManyL n few base short long = short :: bigL n 1 from (if_neg h1).trans (if_pos h2))
    obtain ⟨h2a, h2b⟩ := h2
    have h2c : (short != 0) = true := by simp; omega
    have hwu : IntKind.u8.wrap short = short := by rw [IntKind.wrap_u8]; omega
    have HU : Hid (∀ v ∈ [short], U8 v) := Lib.hid (by intro v hv; rw [List.mem_singleton] at hv; subst hv; unfold U8; omega)
    go_enter Tryz.func126, Tryz.ntmps126
    go_wp2_with (at_builtin; refine wpList_bytes rfl _ _ 22 rfl Tryz.underlying22 info_Byte2 rlo a _ cap b rfl rfl HA.out hlo [short] _ 1 1 rfl (by rfl) rfl (by first | rfl | simp [hwu]) HU.out (by simp) (by simp; omega) ?_; intro a2 c2 w2 happ2 hb2)
    refine (spec_PutBigL _ (b ++ [short]) n 1 a2 c2 w2.heap.size w2 (by simp) (happ2.rd (Nat.le_trans hlo hb2.size)) ⟨hn0, Or.inl ⟨rfl, h2a⟩⟩ (by omega) (by simp; omega) (Nat.le_refl _)).mono ?_
    rintro e w3 ⟨a3, c3, rfl, happ3, hb3⟩
    have hs2 := hb2.size
    go_wp2_with fail
    go_ret
    exact ⟨a3, c3, ret_sl (by rw [HE.out]; first | done | rfl | (simp [bigL_len]; done) | (simp [bigL_len]; omega)), by rw [HE.out, show b ++ short :: bigL n 1 = (b ++ [short]) ++ bigL n (1 : Int).toNat from by rw [List.append_assoc]; rfl]; exact happ3.less (by omega), hb2.trans (hb3.mono (by omega))⟩
  · have HE := Lib.hid (show putManyL n few base short long = long :: bigL n 2 from (if_neg h1).trans (if_neg h2))
    have hwu : IntKind.u8.wrap long = long := by rw [IntKind.wrap_u8]; omega
    have HU : Hid (∀ v ∈ [long], U8 v) := Lib.hid (by intro v hv; rw [List.mem_singleton] at hv; subst hv; unfold U8; omega)
    by_cases h3 : n < 256
    all_goals
      (try have h3s : short = 0 := by omega)
      (try subst h3s)
      go_enter Tryz.func126, Tryz.ntmps126
      go_wp2_with (at_builtin; refine wpList_bytes rfl _ _ 22 rfl Tryz.underlying22 info_Byte2 rlo a _ cap b rfl rfl HA.out hlo [long] _ 1 1 rfl (by rfl) rfl (by first | rfl | simp [hwu]) HU.out (by simp) (by simp; omega) ?_; intro a2 c2 w2 happ2 hb2)
      refine (spec_PutBigL _ (b ++ [long]) n 2 a2 c2 w2.heap.size w2 (by simp) (happ2.rd (Nat.le_trans hlo hb2.size)) ⟨hn0, Or.inr (Or.inl ⟨rfl, by omega⟩)⟩ (by omega) (by simp; omega) (Nat.le_refl _)).mono ?_
      rintro e w3 ⟨a3, c3, rfl, happ3, hb3⟩
      have hs2 := hb2.size
      go_wp2_with fail
      go_ret
      exact ⟨a3, c3, ret_sl (by rw [HE.out]; first | done | rfl | (simp [bigL_len]; done) | (simp [bigL_len]; omega)), by rw [HE.out, show b ++ long :: bigL n 2 = (b ++ [long]) ++ bigL n (2 : Int).toNat from by rw [List.append_assoc]; rfl]; exact happ3.less (by omega), hb2.trans (hb3.mono (by omega))⟩
set_option maxHeartbeats 4000000 in
theorem impl_putMany (b : List Int) (n few base short long : Int) (a : Option Addr) (cap rlo : Nat) (w : World) (happ : AppL EByte 1 5 w rlo a cap b []) (hlo : rlo ≤ w.heap.size) (hz : b.length ≤ 1073741824) (hn : 0 ≤ n ∧ n ≤ 65535)
    (hf : n < few → 0 ≤ base + n ∧ base + n ≤ 255) (hs : 0 ≤ short ∧ short ≤ 255) (hl : 0 ≤ long ∧ long ≤ 255) (hb : 0 ≤ base ∧ base ≤ 255) :
    Calls Tryz.prog 171 #[.slice a b.length cap, .int .i64 n, .int .i64 few, .int .i64 base, .int .i64 short, .int .i64 long] w fun e w' => ∃ a' cap', e = .returned (.slice a' (b ++ putManyL n few base short long).length cap') ∧ AppL EByte 1 5 w' rlo a' cap' (b ++ putManyL n few base short long) [] ∧ Below rlo w w' := by
  have HA := Lib.hid happ
  obtain ⟨hn0, hn1⟩ := hn
  obtain ⟨hs0, hs1⟩ := hs
  obtain ⟨hl0, hl1⟩ := hl
  obtain ⟨hb0, hb1⟩ := hb
  clear happ
  by_cases h1 : n < few
  · obtain ⟨f0, f1⟩ := hf h1
    have HE := Lib.hid (show putManyL n few base short long = [base + n] from if_pos h1)
    have hwu : IntKind.u8.wrap (base + n) = base + n := by rw [IntKind.wrap_u8]; omega
    have HU : Hid (∀ v ∈ [base + n], U8 v) := Lib.hid (by intro v hv; rw [List.mem_singleton] at hv; subst hv; unfold U8; omega)
    go_enter Tryz.func171, Tryz.ntmps171
    go_wp2_with (at_builtin; refine wpList_bytes rfl _ _ 22 rfl Tryz.underlying22 info_Byte2 rlo a _ cap b rfl rfl HA.out hlo [base + n] _ 1 1 rfl (by rfl) rfl (by first | rfl | simp [hwu]) HU.out (by simp) (by simp; omega) ?_; intro a2 c2 w2 happ2 hb2)
    go_ret
    exact ⟨a2, c2, ret_sl (by rw [HE.out]; first | done | rfl | (simp [bigL_len]; done) | (simp [bigL_len]; omega)), by rw [HE.out]; exact happ2, hb2⟩
  by_cases h2 : n < 256 ∧ 0 < short
  · have HE := Lib.hid (show putManyL n few base short long = short :: bigL n 1 from (if_neg h1).trans (if_pos h2))
    obtain ⟨h2a, h2b⟩ := h2
    have h2c : (short != 0) = true := by simp; omega
    have hwu : IntKind.u8.wrap short = short := by rw [IntKind.wrap_u8]; omega
    have HU : Hid (∀ v ∈ [short], U8 v) := Lib.hid (by intro v hv; rw [List.mem_singleton] at hv; subst hv; unfold U8; omega)
    go_enter Tryz.func171, Tryz.ntmps171
    go_wp2_with (at_builtin; refine wpList_bytes rfl _ _ 22 rfl Tryz.underlying22 info_Byte2 rlo a _ cap b rfl rfl HA.out hlo [short] _ 1 1 rfl (by rfl) rfl (by first | rfl | simp [hwu]) HU.out (by simp) (by simp; omega) ?_; intro a2 c2 w2 happ2 hb2)
    refine (impl_PutBigL _ (b ++ [short]) n 1 a2 c2 w2.heap.size w2 (by simp) (happ2.rd (Nat.le_trans hlo hb2.size)) ⟨hn0, Or.inl ⟨rfl, h2a⟩⟩ (by omega) (by simp; omega) (Nat.le_refl _)).mono ?_
    rintro e w3 ⟨a3, c3, rfl, happ3, hb3⟩
    have hs2 := hb2.size
    go_wp2_with fail
    go_ret
    exact ⟨a3, c3, ret_sl (by rw [HE.out]; first | done | rfl | (simp [bigL_len]; done) | (simp [bigL_len]; omega)), by rw [HE.out, show b ++ short :: bigL n 1 = (b ++ [short]) ++ bigL n (1 : Int).toNat from by rw [List.append_assoc]; rfl]; exact happ3.less (by omega), hb2.trans (hb3.mono (by omega))⟩
  · have HE := Lib.hid (show putManyL n few base short long = long :: bigL n 2 from (if_neg h1).trans (if_neg h2))
    have hwu : IntKind.u8.wrap long = long := by rw [IntKind.wrap_u8]; omega
    have HU : Hid (∀ v ∈ [long], U8 v) := Lib.hid (by intro v hv; rw [List.mem_singleton] at hv; subst hv; unfold U8; omega)
    by_cases h3 : n < 256
    all_goals
      (try have h3s : short = 0 := by omega)
      (try subst h3s)
      go_enter Tryz.func171, Tryz.ntmps171
      go_wp2_with (at_builtin; refine wpList_bytes rfl _ _ 22 rfl Tryz.underlying22 info_Byte2 rlo a _ cap b rfl rfl HA.out hlo [long] _ 1 1 rfl (by rfl) rfl (by first | rfl | simp [hwu]) HU.out (by simp) (by simp; omega) ?_; intro a2 c2 w2 happ2 hb2)
      refine (impl_PutBigL _ (b ++ [long]) n 2 a2 c2 w2.heap.size w2 (by simp) (happ2.rd (Nat.le_trans hlo hb2.size)) ⟨hn0, Or.inr (Or.inl ⟨rfl, by omega⟩)⟩ (by omega) (by simp; omega) (Nat.le_refl _)).mono ?_
      rintro e w3 ⟨a3, c3, rfl, happ3, hb3⟩
      have hs2 := hb2.size
      go_wp2_with fail
      go_ret
      exact ⟨a3, c3, ret_sl (by rw [HE.out]; first | done | rfl | (simp [bigL_len]; done) | (simp [bigL_len]; omega)), by rw [HE.out, show b ++ long :: bigL n 2 = (b ++ [long]) ++ bigL n (2 : Int).toNat from by rw [List.append_assoc]; rfl]; exact happ3.less (by omega), hb2.trans (hb3.mono (by omega))⟩
end Go.Proofs.YtohfljaaaojjmaaGreatDoor
