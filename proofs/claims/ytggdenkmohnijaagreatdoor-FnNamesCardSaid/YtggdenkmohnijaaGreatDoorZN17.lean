/- Texts of this proof, merged: LeafB, PutR, DecF. No condition beyond what each theorem states. -/
import Derived.Test.YtggdenkmohnijaaGreatDoorZN15
import Derived.Test.YtggdenkmohnijaaGreatDoorZN8
set_option linter.unusedSimpArgs false
set_option linter.unnecessarySimpa false
namespace Go.Proofs.YtggdenkmohnijaaGreatDoor
open Go.ChangeShapes Go.WideShapes Go.ChangeAt Go.RowKit Go.Joins
set_option linter.unusedVariables false
set_option maxRecDepth 100000
def numV (d : Int × Int) : T := if d.2 = 0 then .mk 3 d.1 0 ⟨#[]⟩ [] else .mk 6 d.1 d.2 ⟨#[]⟩ []
theorem spec_IntVal (n : Int) (w : World) :
    Calls Tryz.prog 97 #[.int .i64 n] w fun e w' => e = .returned (.agg #[.int .i64 3, .int .i64 n, .int .i64 0, .string ⟨#[]⟩, .slice none 0 0]) ∧ Below w.heap.size w w' := by
  go_enter Tryz.func97, Tryz.ntmps97
  go_wp2_with fail
  have q2 := Is.new w #[Value.int IntKind.i64 3, Value.int IntKind.i64 n, Value.int IntKind.i64 0, Value.string ⟨#[]⟩, Value.slice none 0 0] 26
  obtain ⟨e0, e1, e2, e3, e4⟩ := q2.cells5
  refine bodyPost_ret (v := .agg #[.int .i64 3, .int .i64 n, .int .i64 0, .string ⟨#[]⟩, .slice none 0 0]) (by simp [results, Tryz.results97, go_sem, e0, e1, e2, e3, e4]) rfl ⟨rfl, below1 _ _⟩
theorem impl_IntVal (n : Int) (w : World) :
    Calls Tryz.prog 154 #[.int .i64 n] w fun e w' => e = .returned (.agg #[.int .i64 3, .int .i64 n, .int .i64 0, .string ⟨#[]⟩, .slice none 0 0]) ∧ Below w.heap.size w w' := by
  go_enter Tryz.func154, Tryz.ntmps154
  go_wp2_with fail
  have q2 := Is.new w #[Value.int IntKind.i64 3, Value.int IntKind.i64 n, Value.int IntKind.i64 0, Value.string ⟨#[]⟩, Value.slice none 0 0] 26
  obtain ⟨e0, e1, e2, e3, e4⟩ := q2.cells5
  refine bodyPost_ret (v := .agg #[.int .i64 3, .int .i64 n, .int .i64 0, .string ⟨#[]⟩, .slice none 0 0]) (by simp [results, Tryz.results154, go_sem, e0, e1, e2, e3, e4]) rfl ⟨rfl, below1 _ _⟩
theorem spec_TextVal (s : ByteArray) (w : World) :
    Calls Tryz.prog 83 #[.string s] w fun e w' => e = .returned (.agg #[.int .i64 7, .int .i64 0, .int .i64 0, .string s, .slice none 0 0]) ∧ Below w.heap.size w w' := by
  go_enter Tryz.func83, Tryz.ntmps83
  go_wp2_with fail
  have q2 := Is.new w #[Value.int IntKind.i64 7, Value.int IntKind.i64 0, Value.int IntKind.i64 0, Value.string s, Value.slice none 0 0] 26
  obtain ⟨e0, e1, e2, e3, e4⟩ := q2.cells5
  refine bodyPost_ret (v := .agg #[.int .i64 7, .int .i64 0, .int .i64 0, .string s, .slice none 0 0]) (by simp [results, Tryz.results83, go_sem, e0, e1, e2, e3, e4]) rfl ⟨rfl, below1 _ _⟩
theorem impl_TextVal (s : ByteArray) (w : World) :
    Calls Tryz.prog 79 #[.string s] w fun e w' => e = .returned (.agg #[.int .i64 7, .int .i64 0, .int .i64 0, .string s, .slice none 0 0]) ∧ Below w.heap.size w w' := by
  go_enter Tryz.func79, Tryz.ntmps79
  go_wp2_with fail
  have q2 := Is.new w #[Value.int IntKind.i64 7, Value.int IntKind.i64 0, Value.int IntKind.i64 0, Value.string s, Value.slice none 0 0] 26
  obtain ⟨e0, e1, e2, e3, e4⟩ := q2.cells5
  refine bodyPost_ret (v := .agg #[.int .i64 7, .int .i64 0, .int .i64 0, .string s, .slice none 0 0]) (by simp [results, Tryz.results79, go_sem, e0, e1, e2, e3, e4]) rfl ⟨rfl, below1 _ _⟩
set_option maxHeartbeats 1000000 in
theorem spec_NumberVal (n x : Int) (w : World) :
    Calls Tryz.prog 179 #[.agg (cF n x)] w fun e w' => e = .returned (.agg (cV (numV (n, x)) none 0)) ∧ Below w.heap.size w w' := by
  by_cases h : x = 0
  · subst h
    rw [show numV (n, 0) = .mk 3 n 0 ⟨#[]⟩ [] from rfl]
    go_enter Tryz.func179, Tryz.ntmps179
    go_wp2_with fail
    generalize hW : (w.alloc (Obj.cells (cF n 0) 100)).alloc (Obj.cells zV 26) = W0
    have q2 : Is W0 (w.heap.size + 1) 26 zV := by subst hW; exact Is.new2 _ _ _ _
    have H0 := Lib.hid (show Below w.heap.size w W0 from by subst hW; exact below2 _ _ _)
    have hs0 : W0.heap.size = w.heap.size + 2 := by subst hW; simp
    clear hW
    refine (spec_IntVal n W0).mono ?_
    rintro ee w2 ⟨rfl, hb⟩
    have p2 := q2.below hb (by omega)
    have HB := Lib.hid (H0.out.trans (hb.mono (by omega)))
    have hl1 : w.heap.size + 1 < w2.heap.size := by have := hb.size; omega
    have ff := fun i => p2.frozen i
    obtain ⟨o0, o1, o2, o3, o4⟩ := p2.cells5
    clear hb
    try dsimp only
    repeat (first | go_values | go_skip | go_guarded | go_step | go_upon)
    obtain ⟨e0, e1, e2, e3, e4, hbel, hold, hsz⟩ := out5 p2.blk (.int .i64 3) (.int .i64 n) (.int .i64 0) (.string ⟨#[]⟩) (.slice none 0 0) w.heap.size (by omega)
    refine bodyPost_ret (v := .agg #[.int .i64 3, .int .i64 n, .int .i64 0, .string ⟨#[]⟩, .slice none 0 0]) (by simp [results, Tryz.results179, go_sem, e0, e1, e2, e3, e4]) rfl ⟨rfl, HB.out.trans hbel⟩
  · have hb : (x == 0) = false := by simpa using h
    rw [show numV (n, x) = .mk 6 n x ⟨#[]⟩ [] from if_neg h]
    go_enter Tryz.func179, Tryz.ntmps179
    go_wp2_with fail
    have q2 : Is ((w.alloc (Obj.cells (cF n x) 100)).alloc (Obj.cells #[Value.int IntKind.i64 6, Value.int IntKind.i64 n, Value.int IntKind.i64 x, Value.string ⟨#[]⟩, Value.slice none 0 0] 26)) (w.heap.size + 1) 26 _ := Is.new2 _ _ _ _
    obtain ⟨e0, e1, e2, e3, e4⟩ := q2.cells5
    refine bodyPost_ret (v := .agg #[.int .i64 6, .int .i64 n, .int .i64 x, .string ⟨#[]⟩, .slice none 0 0]) (by simp [results, Tryz.results179, go_sem, e0, e1, e2, e3, e4]) rfl ⟨rfl, below2 _ _ _⟩
set_option maxHeartbeats 1000000 in
theorem impl_NumberVal (n x : Int) (w : World) :
    Calls Tryz.prog 201 #[.agg (cF n x)] w fun e w' => e = .returned (.agg (cV (numV (n, x)) none 0)) ∧ Below w.heap.size w w' := by
  by_cases h : x = 0
  · subst h
    rw [show numV (n, 0) = .mk 3 n 0 ⟨#[]⟩ [] from rfl]
    go_enter Tryz.func201, Tryz.ntmps201
    go_wp2_with fail
    generalize hW : (w.alloc (Obj.cells (cF n 0) 100)).alloc (Obj.cells zV 26) = W0
    have q2 : Is W0 (w.heap.size + 1) 26 zV := by subst hW; exact Is.new2 _ _ _ _
    have H0 := Lib.hid (show Below w.heap.size w W0 from by subst hW; exact below2 _ _ _)
    have hs0 : W0.heap.size = w.heap.size + 2 := by subst hW; simp
    clear hW
    refine (impl_IntVal n W0).mono ?_
    rintro ee w2 ⟨rfl, hb⟩
    have p2 := q2.below hb (by omega)
    have HB := Lib.hid (H0.out.trans (hb.mono (by omega)))
    have hl1 : w.heap.size + 1 < w2.heap.size := by have := hb.size; omega
    have ff := fun i => p2.frozen i
    obtain ⟨o0, o1, o2, o3, o4⟩ := p2.cells5
    clear hb
    try dsimp only
    repeat (first | go_values | go_skip | go_guarded | go_step | go_upon)
    obtain ⟨e0, e1, e2, e3, e4, hbel, hold, hsz⟩ := out5 p2.blk (.int .i64 3) (.int .i64 n) (.int .i64 0) (.string ⟨#[]⟩) (.slice none 0 0) w.heap.size (by omega)
    refine bodyPost_ret (v := .agg #[.int .i64 3, .int .i64 n, .int .i64 0, .string ⟨#[]⟩, .slice none 0 0]) (by simp [results, Tryz.results201, go_sem, e0, e1, e2, e3, e4]) rfl ⟨rfl, HB.out.trans hbel⟩
  · have hb : (x == 0) = false := by simpa using h
    rw [show numV (n, x) = .mk 6 n x ⟨#[]⟩ [] from if_neg h]
    go_enter Tryz.func201, Tryz.ntmps201
    go_wp2_with fail
    have q2 : Is ((w.alloc (Obj.cells (cF n x) 100)).alloc (Obj.cells #[Value.int IntKind.i64 6, Value.int IntKind.i64 n, Value.int IntKind.i64 x, Value.string ⟨#[]⟩, Value.slice none 0 0] 26)) (w.heap.size + 1) 26 _ := Is.new2 _ _ _ _
    obtain ⟨e0, e1, e2, e3, e4⟩ := q2.cells5
    refine bodyPost_ret (v := .agg #[.int .i64 6, .int .i64 n, .int .i64 x, .string ⟨#[]⟩, .slice none 0 0]) (by simp [results, Tryz.results201, go_sem, e0, e1, e2, e3, e4]) rfl ⟨rfl, below2 _ _ _⟩
set_option maxHeartbeats 4000000 in
theorem spec_l6FltVal (m x : Int) (w : World) :
    Calls Tryz.prog 107 #[.agg (cF m x)] w fun e w' => e = .returned (.agg #[.int .i64 4, .int .i64 m, .int .i64 x, .string ⟨#[]⟩, .slice none 0 0]) ∧ Below w.heap.size w w' := by
  go_enter Tryz.func107, Tryz.ntmps107
  go_wp2_with fail
  have q2 : Is ((w.alloc (Obj.cells (cF m x) 61)).alloc (Obj.cells #[Value.int IntKind.i64 4, Value.int IntKind.i64 m, Value.int IntKind.i64 x, Value.string ⟨#[]⟩, Value.slice none 0 0] 26)) (w.heap.size + 1) 26 _ := Is.new2 _ _ _ _
  obtain ⟨e0, e1, e2, e3, e4⟩ := q2.cells5
  refine bodyPost_ret (v := .agg #[.int .i64 4, .int .i64 m, .int .i64 x, .string ⟨#[]⟩, .slice none 0 0]) (by simp [results, Tryz.results107, go_sem, e0, e1, e2, e3, e4]) rfl ⟨rfl, below2 _ _ _⟩
def encN (n : Int) : List Int :=
  if n < 128 then [n] else if n < 2048 then [192 + n / 64, 128 + n % 64] else if n < 65536 then [224 + n / 4096, 128 + n / 64 % 64, 128 + n % 64] else [240 + n / 262144, 128 + n / 4096 % 64, 128 + n / 64 % 64, 128 + n % 64]
theorem encN_str (n : Int) (h : runeOk n) : strOfNums (encN n) = Utf8.encode n := by
  obtain ⟨u, rfl⟩ : ∃ u : Nat, n = u := ⟨n.toNat, by have := h.1; omega⟩
  obtain ⟨h1, h2⟩ := h
  have hv : Utf8.valid (u : Int) = true := by
    simp [Utf8.valid]; omega
  unfold encN Utf8.encode strOfNums
  rw [if_pos hv]
  simp only [Int.toNat_natCast]
  by_cases c1 : u < 128
  · rw [if_pos (show (u : Int) < 128 from by omega), if_pos c1]; rfl
  · rw [if_neg (show ¬ (u : Int) < 128 from by omega), if_neg c1]
    by_cases c2 : u < 2048
    · rw [if_pos (show (u : Int) < 2048 from by omega), if_pos c2]
      simp only [List.map_cons, List.map_nil]
      rw [show (192 + (u : Int) / 64).toNat = 192 + u / 64 from by omega, show (128 + (u : Int) % 64).toNat = 128 + u % 64 from by omega]
    · rw [if_neg (show ¬ (u : Int) < 2048 from by omega), if_neg c2]
      by_cases c3 : u < 65536
      · rw [if_pos (show (u : Int) < 65536 from by omega), if_pos c3]
        simp only [List.map_cons, List.map_nil]
        rw [show (224 + (u : Int) / 4096).toNat = 224 + u / 4096 from by omega, show (128 + (u : Int) / 64 % 64).toNat = 128 + u / 64 % 64 from by omega, show (128 + (u : Int) % 64).toNat = 128 + u % 64 from by omega]
      · rw [if_neg (show ¬ (u : Int) < 65536 from by omega), if_neg c3]
        simp only [List.map_cons, List.map_nil]
        rw [show (240 + (u : Int) / 262144).toNat = 240 + u / 262144 from by omega, show (128 + (u : Int) / 4096 % 64).toNat = 128 + u / 4096 % 64 from by omega, show (128 + (u : Int) / 64 % 64).toNat = 128 + u / 64 % 64 from by omega, show (128 + (u : Int) % 64).toNat = 128 + u % 64 from by omega]
set_option maxHeartbeats 4000000 in
theorem spec_PutRune0 (n : Int) (g cap : Nat) (w : World) (hn : runeOk n) (hcap : cap ≤ 9223372036854775807) :
    Calls Tryz.prog 259 #[.slice (some ⟨g, 0, none⟩) 0 cap, .int .i64 n] w fun e w' => ∃ a' cap', e = .returned (.slice a' (encN n).length cap') ∧ AppL EByte 1 5 w' w.heap.size a' cap' (encN n) [] ∧ Below w.heap.size w w' := by
  obtain ⟨h1a, h1b⟩ := hn.1
  have h0 := AppL.empty (E := EByte) (n := 1) (e := 5) w w.heap.size (Nat.le_refl _)
  by_cases h128 : n < 128
  · have HW := Lib.hid (show wideN n = 1 from by unfold wideN; rw [if_neg (by simp [hn]), if_pos h128])
    have HE := Lib.hid (show encN n = [n] from by unfold encN; rw [if_pos h128])
    clear hn
    go_enter Tryz.func259, Tryz.ntmps259
    go_wp2_with fail
    refine (spec_WideOf n _).mono ?_
    rintro e w2 ⟨rfl, hb2⟩
    rw [HW.out]
    have hs2 := hb2.size
    have HA := Lib.hid (h0.agree EByte.elem (fun f hf => hb2.block f hf) (by simp))
    have HB2 := Lib.hid (below_step (below1 w (.cells #[] 5)) hb2 (by simp))
    have hs3 : w.heap.size ≤ w2.heap.size := HB2.out.size
    have HN := Lib.hid (HA.out.agree EByte.elem (fun f hf => (below1 w2 (.cells #[Value.int IntKind.u8 (n)] 5)).block f hf) hs3)
    clear hb2
    go_wp2_with (at_builtin; refine wpList_appL EByte.elem rfl _ _ 22 rfl (.int .u8 0) 1 Tryz.underlying22 info_Byte2 rfl w.heap.size (some ⟨w.heap.size, 0, none⟩) 0 [] [] rfl HN.out (by simp; omega) w2.heap.size 0 1 1 [n] [] rfl rfl ⟨[], [], rfl, ⟨rfl, (Is.new w2 #[.int .u8 (n)] 5).cell 0 rfl, ⟨by omega, by omega⟩⟩, rfl⟩ (by simp) (by omega) (by simp [maxLen]) (by simp) ?_; intro ar2 cr2 w3 happ3 hb3)
    go_ret
    exact ⟨ar2, cr2, by rw [HE.out]; rfl, by rw [HE.out]; exact happ3, (HB2.out.trans ((below1 w2 _).mono hs3)).trans hb3⟩
  by_cases h2048 : n < 2048
  · have HW := Lib.hid (show wideN n = 2 from by unfold wideN; rw [if_neg (by simp [hn]), if_neg h128, if_pos h2048])
    have HE := Lib.hid (show encN n = [192 + n / 64, 128 + n % 64] from by unfold encN; rw [if_neg h128, if_pos h2048])
    clear hn
    go_enter Tryz.func259, Tryz.ntmps259
    go_wp2_with fail
    refine (spec_WideOf n _).mono ?_
    rintro e w2 ⟨rfl, hb2⟩
    rw [HW.out]
    have hs2 := hb2.size
    have HA := Lib.hid (h0.agree EByte.elem (fun f hf => hb2.block f hf) (by simp))
    have HB2 := Lib.hid (below_step (below1 w (.cells #[] 5)) hb2 (by simp))
    have hs3 : w.heap.size ≤ w2.heap.size := HB2.out.size
    have HN := Lib.hid (HA.out.agree EByte.elem (fun f hf => (below1 w2 (.cells #[Value.int IntKind.u8 (192 + n / 64), Value.int IntKind.u8 (128 + n % 64)] 5)).block f hf) hs3)
    clear hb2
    go_wp2_with (at_builtin; refine wpList_appL EByte.elem rfl _ _ 22 rfl (.int .u8 0) 1 Tryz.underlying22 info_Byte2 rfl w.heap.size (some ⟨w.heap.size, 0, none⟩) 0 [] [] rfl HN.out (by simp; omega) w2.heap.size 0 2 2 [192 + n / 64, 128 + n % 64] [] rfl rfl ⟨[], [], rfl, ⟨rfl, (Is.new w2 #[.int .u8 (192 + n / 64), .int .u8 (128 + n % 64)] 5).cell 0 rfl, ⟨by omega, by omega⟩⟩, ⟨[], [], rfl, ⟨rfl, (Is.new w2 #[.int .u8 (192 + n / 64), .int .u8 (128 + n % 64)] 5).cell 1 rfl, ⟨by omega, by omega⟩⟩, rfl⟩⟩ (by simp) (by omega) (by simp [maxLen]) (by simp) ?_; intro ar2 cr2 w3 happ3 hb3)
    go_ret
    exact ⟨ar2, cr2, by rw [HE.out]; rfl, by rw [HE.out]; exact happ3, (HB2.out.trans ((below1 w2 _).mono hs3)).trans hb3⟩
  by_cases h65536 : n < 65536
  · have HW := Lib.hid (show wideN n = 3 from by unfold wideN; rw [if_neg (by simp [hn]), if_neg h128, if_neg h2048, if_pos h65536])
    have HE := Lib.hid (show encN n = [224 + n / 4096, 128 + n / 64 % 64, 128 + n % 64] from by unfold encN; rw [if_neg h128, if_neg h2048, if_pos h65536])
    clear hn
    go_enter Tryz.func259, Tryz.ntmps259
    go_wp2_with fail
    refine (spec_WideOf n _).mono ?_
    rintro e w2 ⟨rfl, hb2⟩
    rw [HW.out]
    have hs2 := hb2.size
    have HA := Lib.hid (h0.agree EByte.elem (fun f hf => hb2.block f hf) (by simp))
    have HB2 := Lib.hid (below_step (below1 w (.cells #[] 5)) hb2 (by simp))
    have hs3 : w.heap.size ≤ w2.heap.size := HB2.out.size
    have HN := Lib.hid (HA.out.agree EByte.elem (fun f hf => (below1 w2 (.cells #[Value.int IntKind.u8 (224 + n / 4096), Value.int IntKind.u8 (128 + n / 64 % 64), Value.int IntKind.u8 (128 + n % 64)] 5)).block f hf) hs3)
    clear hb2
    go_wp2_with (at_builtin; refine wpList_appL EByte.elem rfl _ _ 22 rfl (.int .u8 0) 1 Tryz.underlying22 info_Byte2 rfl w.heap.size (some ⟨w.heap.size, 0, none⟩) 0 [] [] rfl HN.out (by simp; omega) w2.heap.size 0 3 3 [224 + n / 4096, 128 + n / 64 % 64, 128 + n % 64] [] rfl rfl ⟨[], [], rfl, ⟨rfl, (Is.new w2 #[.int .u8 (224 + n / 4096), .int .u8 (128 + n / 64 % 64), .int .u8 (128 + n % 64)] 5).cell 0 rfl, ⟨by omega, by omega⟩⟩, ⟨[], [], rfl, ⟨rfl, (Is.new w2 #[.int .u8 (224 + n / 4096), .int .u8 (128 + n / 64 % 64), .int .u8 (128 + n % 64)] 5).cell 1 rfl, ⟨by omega, by omega⟩⟩, ⟨[], [], rfl, ⟨rfl, (Is.new w2 #[.int .u8 (224 + n / 4096), .int .u8 (128 + n / 64 % 64), .int .u8 (128 + n % 64)] 5).cell 2 rfl, ⟨by omega, by omega⟩⟩, rfl⟩⟩⟩ (by simp) (by omega) (by simp [maxLen]) (by simp) ?_; intro ar2 cr2 w3 happ3 hb3)
    go_ret
    exact ⟨ar2, cr2, by rw [HE.out]; rfl, by rw [HE.out]; exact happ3, (HB2.out.trans ((below1 w2 _).mono hs3)).trans hb3⟩
  · have HW := Lib.hid (show wideN n = 4 from by unfold wideN; rw [if_neg (by simp [hn]), if_neg h128, if_neg h2048, if_neg h65536])
    have HE := Lib.hid (show encN n = [240 + n / 262144, 128 + n / 4096 % 64, 128 + n / 64 % 64, 128 + n % 64] from by unfold encN; rw [if_neg h128, if_neg h2048, if_neg h65536])
    clear hn
    go_enter Tryz.func259, Tryz.ntmps259
    go_wp2_with fail
    refine (spec_WideOf n _).mono ?_
    rintro e w2 ⟨rfl, hb2⟩
    rw [HW.out]
    have hs2 := hb2.size
    have HA := Lib.hid (h0.agree EByte.elem (fun f hf => hb2.block f hf) (by simp))
    have HB2 := Lib.hid (below_step (below1 w (.cells #[] 5)) hb2 (by simp))
    have hs3 : w.heap.size ≤ w2.heap.size := HB2.out.size
    have HN := Lib.hid (HA.out.agree EByte.elem (fun f hf => (below1 w2 (.cells #[Value.int IntKind.u8 (240 + n / 262144), Value.int IntKind.u8 (128 + n / 4096 % 64), Value.int IntKind.u8 (128 + n / 64 % 64), Value.int IntKind.u8 (128 + n % 64)] 5)).block f hf) hs3)
    clear hb2
    go_wp2_with (at_builtin; refine wpList_appL EByte.elem rfl _ _ 22 rfl (.int .u8 0) 1 Tryz.underlying22 info_Byte2 rfl w.heap.size (some ⟨w.heap.size, 0, none⟩) 0 [] [] rfl HN.out (by simp; omega) w2.heap.size 0 4 4 [240 + n / 262144, 128 + n / 4096 % 64, 128 + n / 64 % 64, 128 + n % 64] [] rfl rfl ⟨[], [], rfl, ⟨rfl, (Is.new w2 #[.int .u8 (240 + n / 262144), .int .u8 (128 + n / 4096 % 64), .int .u8 (128 + n / 64 % 64), .int .u8 (128 + n % 64)] 5).cell 0 rfl, ⟨by omega, by omega⟩⟩, ⟨[], [], rfl, ⟨rfl, (Is.new w2 #[.int .u8 (240 + n / 262144), .int .u8 (128 + n / 4096 % 64), .int .u8 (128 + n / 64 % 64), .int .u8 (128 + n % 64)] 5).cell 1 rfl, ⟨by omega, by omega⟩⟩, ⟨[], [], rfl, ⟨rfl, (Is.new w2 #[.int .u8 (240 + n / 262144), .int .u8 (128 + n / 4096 % 64), .int .u8 (128 + n / 64 % 64), .int .u8 (128 + n % 64)] 5).cell 2 rfl, ⟨by omega, by omega⟩⟩, ⟨[], [], rfl, ⟨rfl, (Is.new w2 #[.int .u8 (240 + n / 262144), .int .u8 (128 + n / 4096 % 64), .int .u8 (128 + n / 64 % 64), .int .u8 (128 + n % 64)] 5).cell 3 rfl, ⟨by omega, by omega⟩⟩, rfl⟩⟩⟩⟩ (by simp) (by omega) (by simp [maxLen]) (by simp) ?_; intro ar2 cr2 w3 happ3 hb3)
    go_ret
    exact ⟨ar2, cr2, by rw [HE.out]; rfl, by rw [HE.out]; exact happ3, (HB2.out.trans ((below1 w2 _).mono hs3)).trans hb3⟩
set_option maxHeartbeats 2000000 in
theorem spec_FromRune (n : Int) (g cap : Nat) (w : World) (hn : runeOk n) (hcap : 1 ≤ cap) (hcap2 : cap ≤ 9223372036854775807) (hg : g < w.heap.size) (hc : w.cell? ⟨g, 0, none⟩ = some (.int .i64 n)) :
    Calls Tryz.prog 234 #[.slice (some ⟨g, 0, none⟩) 1 cap] w fun e w' => e = .returned (.string (Utf8.encode n)) ∧ Below w.heap.size w w' := by
  have HE := Lib.hid (encN_str n hn)
  have HN := Lib.hid hn
  have hlen : (encN n).length ≤ 4 := by unfold encN; split; simp; split; simp; split <;> simp
  go_enter Tryz.func234, Tryz.ntmps234
  go_wp2_with fail
  go_loopw [3, 4] (fun q i wr => Below w.heap.size w wr ∧ ((i = .int .i64 0 ∧ q = .slice (some ⟨w.heap.size, 0, none⟩) 0 0) ∨ (i = .int .i64 1 ∧ ∃ a' cap', q = .slice a' (encN n).length cap' ∧ ∃ rlo, AppL EByte 1 5 wr rlo a' cap' (encN n) []))) (fun _ i _ => 1 - (intOf i).toNat)
  case atStart => exact ⟨below1 _ _, Or.inl ⟨rfl, rfl⟩⟩
  case round =>
    obtain ⟨hb, ⟨rfl, rfl⟩ | ⟨rfl, a', cap', rfl, rlo, happ⟩⟩ := hrel
    · have hbs := hb.size
      have hc2 := (hb.cell (p := ⟨g, 0, none⟩) hg).trans hc
      have hg2 : g < wr.heap.size := by omega
      go_wp2_with fail
      refine (spec_PutRune0 n w.heap.size 0 _ HN.out (by omega)).mono ?_
      rintro e w2 ⟨a', cap', rfl, happ, hb2⟩
      have HA := Lib.hid happ; clear happ
      go_wp2_with fail
      go_roundw
      case rel => exact ⟨hb.trans (hb2.mono hbs), Or.inr ⟨rfl, a', cap', rfl, _, HA.out⟩⟩
      case measure => simp [intOf]
    · have hcv := conv_bytes wr rlo a' cap' _ [] happ
      rw [HE.out] at hcv
      clear happ
      go_wp2_with fail
      go_ret
      exact ⟨rfl, hb⟩
theorem pow_mono {b j k : Nat} (hb : 1 ≤ b) (h : j ≤ k) : b ^ j ≤ b ^ k := Nat.pow_le_pow_right hb h
theorem pow_step {b j k : Nat} (hb : 1 ≤ b) (h : j < k) (hk : b ^ k ≤ 9223372036854775807) : (b ^ j : Nat) * b ≤ 9223372036854775807 := by
  rw [← Nat.pow_succ]; exact Nat.le_trans (pow_mono hb h) hk
theorem impl_power (b k : Nat) (w : World) (hb : 1 ≤ b) (hb2 : b ≤ 100) (hk2 : k ≤ 100) (hk : b ^ k ≤ 9223372036854775807) :
    Calls Tryz.prog 245 #[.int .i64 b, .int .i64 k] w fun e w' => e = .returned (.int .i64 (b ^ k : Nat)) ∧ Below w.heap.size w w' := by
  go_enter Tryz.func245, Tryz.ntmps245
  go_wp2_with fail
  go_loopw [5, 7] (fun o i wr => ∃ (j p : Nat), j ≤ k ∧ i = .int .i64 j ∧ o = .int .i64 p ∧ Hid (p = b ^ j) ∧ Below w.heap.size w wr) (fun _ i _ => k - (intOf i).toNat)
  case atStart => exact ⟨0, 1, Nat.zero_le _, rfl, rfl, (Nat.pow_zero _).symm, Below.refl _ _⟩
  case round =>
    obtain ⟨j, p, hj, rfl, rfl, HP, hb'⟩ := hrel
    by_cases hlt : j < k
    · have h1 := pow_step hb hlt hk
      rw [← HP.out] at h1
      have h2 : (p : Int) * (b : Int) ≤ 9223372036854775807 := by rw [← Int.natCast_mul]; omega
      have h3 : (0 : Int) ≤ (p : Int) * (b : Int) := by rw [← Int.natCast_mul]; omega
      have HE := Lib.hid (show (p : Int) * (b : Int) = ((p * b : Nat) : Int) from (Int.natCast_mul p b).symm)
      have HQ := Lib.hid (show p * b = b ^ (j + 1) from by rw [Nat.pow_succ, HP.out])
      clear h1
      go_wp2_with fail
      go_roundw
      case rel => exact ⟨j + 1, p * b, by omega, by go_num, by first | go_num | (rw [HE.out]), HQ.out, hb'⟩
      case measure => simp [intOf]; omega
    · have HE := Lib.hid (show p = b ^ k from by rw [HP.out, show j = k from by omega])
      go_wp2_with fail
      go_ret
      exact ⟨by rw [← HE.out]; rfl, hb'⟩
theorem spec_Pow (b k : Nat) (w : World) (hb : b = 2 ∨ b = 5 ∨ b = 10) (hk2 : k ≤ 17) :
    Calls Tryz.prog 247 #[.int .i64 b, .int .i64 k] w fun e w' => e = .returned (.int .i64 (b ^ k : Nat)) ∧ Below w.heap.size w w' := by
  have hb1 : 1 ≤ b := by omega
  have hk : b ^ k ≤ 9223372036854775807 := by
    have h1 : b ^ k ≤ 10 ^ k := Nat.pow_le_pow_left (by omega) k
    have h2 : 10 ^ k ≤ 10 ^ 17 := Nat.pow_le_pow_right (by omega) hk2
    have h3 : (10 : Nat) ^ 17 = 100000000000000000 := by decide
    omega
  have HD := Lib.hid (show decide ((0 : Int) ≤ (k : Int) ∧ (k : Int) ≤ 17) = true from decide_eq_true ⟨by omega, by omega⟩)
  have HKK := Lib.hid hk; clear hk
  obtain ⟨P, hP⟩ : ∃ P, b ^ k = P := ⟨_, rfl⟩
  have HPP := Lib.hid hP; rw [hP]; clear hP
  obtain rfl | rfl | rfl := hb
  all_goals
    go_enter Tryz.func247, Tryz.ntmps247
    go_wp2_with (go_at_call 74; refine (spec_l1In _ _ _ _).mono ?_; rintro e w2 ⟨rfl, hb2⟩; rw [HD.out]; have HB2 := Lib.hid hb2)
    go_loopw [5, 6] (fun o i wr => ∃ (j p : Nat), j ≤ k ∧ i = .int .i64 j ∧ o = .int .i64 p ∧ Hid (p = _ ^ j) ∧ Below w.heap.size w wr) (fun _ i _ => k - (intOf i).toNat)
    case atStart => exact ⟨0, 1, Nat.zero_le _, rfl, rfl, by show _ = _; exact (Nat.pow_zero _).symm, HB2.out⟩
    case round =>
      obtain ⟨j, p, hj, rfl, rfl, HP, hb'⟩ := hrel
      by_cases hlt : j < k
      · have h1 := pow_step hb1 hlt HKK.out
        rw [← HP.out] at h1
        have HQ := Lib.hid (show p * _ = _ ^ (j + 1) from by rw [Nat.pow_succ, ← HP.out])
        go_wp2_with fail
        go_roundw
        case rel => exact ⟨j + 1, _, by omega, by go_num, by go_num, HQ.out, hb'⟩
        case measure => simp [intOf]; omega
      · have HE := Lib.hid (show p = P from by rw [HP.out, ← HPP.out, show j = k from by omega])
        go_wp2_with fail
        go_ret
        exact ⟨by rw [← HE.out]; rfl, hb'⟩
theorem spec_Pow5 (k : Nat) (kk : Int) (w : World) (h : kk = k) (hk2 : k ≤ 16) :
    Calls Tryz.prog 247 #[.int .i64 5, .int .i64 kk] w fun e w' => e = .returned (.int .i64 (5 ^ k : Nat)) ∧ Below w.heap.size w w' := by
  subst h; exact spec_Pow 5 k w (by omega) (by omega)
theorem impl_power5 (k : Nat) (kk : Int) (w : World) (h : kk = k) (hk2 : k ≤ 16) :
    Calls Tryz.prog 245 #[.int .i64 5, .int .i64 kk] w fun e w' => e = .returned (.int .i64 (5 ^ k : Nat)) ∧ Below w.heap.size w w' := by
  subst h; exact impl_power 5 k w (by omega) (by omega) (by omega) (by
    have h1 : 5 ^ k ≤ 5 ^ 16 := Nat.pow_le_pow_right (by omega) hk2
    have h2 : (5 : Nat) ^ 16 = 152587890625 := by decide
    omega)
end Go.Proofs.YtggdenkmohnijaaGreatDoor
