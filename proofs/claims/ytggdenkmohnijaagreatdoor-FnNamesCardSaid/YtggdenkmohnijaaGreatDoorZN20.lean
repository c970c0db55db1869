/- Texts of this proof, merged: KeepX, AppX, DrwV, Drw1. No condition beyond what each theorem states. -/
import Derived.Test.YtggdenkmohnijaaGreatDoorZN10
import Derived.Test.YtggdenkmohnijaaGreatDoorZN19
import Derived.Test.YtggdenkmohnijaaGreatDoorZN16
set_option linter.unusedSimpArgs false
set_option linter.unnecessarySimpa false
namespace Go.Proofs.YtggdenkmohnijaaGreatDoor
open Go.ChangeShapes Go.WideShapes Go.ChangeAt Go.RowKit Go.Joins
set_option linter.unusedVariables false
set_option maxRecDepth 100000
section
variable {α : Type} {E : World → Nat → Nat → α → List Nat → Prop} {n : Nat} {e : TypeId}
theorem AppL.row {w : World} {rlo cap : Nat} {a : Option Addr} {l : List α} {F : List Nat} (h : AppL E n e w rlo a cap l F) : ∀ k, (Value.slice a l.length cap).ownBlock = Option.some k → rlo ≤ k ∧ k < w.heap.size := by
  intro k hk
  rcases h with ⟨rfl, rfl, rfl, _⟩ | ⟨g, cur, rfl, k1, h3, _⟩
  · simp [Value.ownBlock] at hk
  · simp only [Value.ownBlock, Option.some.injEq] at hk; subst hk; exact ⟨k1, (Array.getElem?_eq_some_iff.1 h3).1⟩
end
section
variable {α : Type} {E : World → Nat → Nat → α → List Nat → Prop} {n : Nat} {e : TypeId}
theorem wpList_appX {P : Program} {w : World} (hE : Elem E n) {ops : Array Oper} {rest : List Oper} {o : Oper} {act : Act} {Q : Exit → Act → World → Prop} (hgd : o.guard = none) (s x : Operand) (t : TypeId)
    (ho : o.op = .call { callee := .builtin .append, args := #[s, x], argTypes := #[t, t] }) (z : Value) (bytes : Nat) (ht : P.underlying t = some (.slice e)) (hinfo : (P.info? e).map (fun i => (i.zero, i.size, i.bytes)) = some (some z, n, bytes)) (hzs : z.cells.size = n)
    (rlo : Nat) (a : Option Addr) (cap : Nat) (l : List α) (F : List Nat) (hs : act.eval s = .slice a l.length cap) (happ : AppL E n e w rlo a cap l F) (hlo : rlo ≤ w.heap.size)
    (b off m c : Nat) (ys : List α) (G : List Nat) (hx : act.eval x = .slice (some ⟨b, off, none⟩) m c) (hm : ys.length = m) (hys : Row E n w b off ys G) (hG : ∀ f ∈ G, f < rlo)
    (hpos : 0 < m) (h63 : l.length + m ≤ maxLen) (hbytes : (l.length + m) * bytes ≤ 140737488355328)
    (h : ∀ a' cap' w', AppL E n e w' rlo a' cap' (l ++ ys) (F ++ G) → Below rlo w w' → (∀ f, f < w.heap.size → (∀ k, (Value.slice a l.length cap).ownBlock = some k → f ≠ k) → w'.heap[f]? = w.heap[f]?) → (∀ k, (Value.slice a' (l ++ ys).length cap').ownBlock = some k → (Value.slice a l.length cap).ownBlock = some k ∨ k = w.heap.size) → w.heap.size ≤ w'.heap.size → wpList P ops Q rest (act.put o.dst (.slice a' (l ++ ys).length cap')) w') : wpList P ops Q (o :: rest) act w := by
  obtain ⟨i, hi', hz0, hz1, hz2⟩ := info_parts hinfo
  obtain ⟨xs, q1, q2, q3⟩ := happ.owns
  subst hm
  obtain ⟨news, n1, n2, n3⟩ := cells_list (hys.cel hE ys)
  refine wpList_append_lies w hgd s x t ho rlo e i z n bytes ht hi' hz0 hz1 hz2 hzs hE.pos (.slice a l.length cap) l.length xs hs q1 ⟨b, off, none⟩ ys.length c news hx n1 (fun j u hj => ?_) n3 hpos h63 hbytes hlo w.heap.size rfl (fun g' cap' w' hown hgr hat hlt => ?_)
  · have hj2 : j < ys.length * n := by
      rcases Nat.lt_or_ge j (ys.length * n) with h | h
      · exact h
      · rw [List.getElem?_eq_none (by omega)] at hj; cases hj
    rw [← hj, ← n2 j hj2, Addr.add_lit]
  · obtain ⟨r1, r2⟩ := AppL.grown hE happ hys hG hlo n1 n2 q3 q2 hown hgr
    have := h _ _ w' r1 r2 (fun f hf hne => hgr.block f hf (fun e => hne f e.symm rfl)) (fun k hk => by
      have hk' : k = g' := by
        simp only [Value.ownBlock] at hk
        first | exact (Option.some.inj hk).symm | (split at hk <;> simp_all)
      subst hk'; exact hat) hgr.size
    rwa [List.length_append] at this
end
mutual
def AllT (P : T → Prop) : T → Prop | .mk k n x s l => P (.mk k n x s l) ∧ AllTL P l
def AllTL (P : T → Prop) : List T → Prop | [] => True | t :: r => AllT P t ∧ AllTL P r
end
theorem AllTL_iff (P : T → Prop) : ∀ l : List T, AllTL P l ↔ ∀ t ∈ l, AllT P t := by
  intro l
  induction l with
  | nil => simp [AllTL]
  | cons t r ih => simp [AllTL, ih]
theorem AllT_iff (P : T → Prop) (t : T) : AllT P t ↔ P t ∧ ∀ u ∈ t.l, AllT P u := by
  obtain ⟨k, n, x, s, l⟩ := t
  simp only [AllT, AllTL_iff, T.l]
theorem AllT.mono {P Q : T → Prop} (h : ∀ t, P t → Q t) : ∀ t, AllT P t → AllT Q t := by
  apply T.ind
  intro k n x s l ih ht
  rw [AllT_iff] at ht ⊢
  exact ⟨h _ ht.1, fun u hu => ih u hu (ht.2 u hu)⟩
def namQ (t : T) : Prop := t.l = [] ∧ t.x = 0 ∧ ((t.k = 3 ∧ 0 ≤ t.n ∧ t.n ≤ 3 ∧ t.s = ⟨#[]⟩) ∨ (t.k = 7 ∧ t.n = 0 ∧ t.s ∈ [(⟨#[97]⟩ : ByteArray), ⟨#[98]⟩, ⟨#[99]⟩, ⟨#[]⟩, ⟨#[107, 101, 121]⟩, ⟨#[195, 169]⟩]))
def drQ (t : T) : Prop := ownQ t.k t.n t.x t.s t.l.length ∧ t.s.size ≤ 12 ∧ t.l.length ≤ 6 ∧ (t.k = 10 → ∀ i (h : i < t.l.length), i % 2 = 0 → namQ t.l[i])
def Dr (D : Nat) (t : T) : Prop := AllT drQ t ∧ T.depth t ≤ D
theorem AllT.own {t : T} (h : AllT drQ t) : allB ownB t = true := by
  revert h
  revert t
  apply T.ind
  intro k n x s l ih h
  rw [AllT_iff] at h
  rw [allB_eq, Bool.and_eq_true, List.all_eq_true]
  exact ⟨decide_eq_true h.1.1, fun u hu => ih u hu (h.2 u hu)⟩
theorem dv_nil : (⟨#[]⟩ : ByteArray).toList = [] := by
  rw [ByteArray.toList]; unfold ByteArray.toList.loop; simp [ByteArray.size]
theorem Dr.leaf {D : Nat} {k n x : Int} {s : ByteArray} (h : ownQ k n x s 0) (hs : s.size ≤ 12) (hD : 1 ≤ D) : Dr D (.mk k n x s []) := by
  refine ⟨(AllT_iff _ _).2 ⟨⟨h, hs, by simp [T.l], fun _ i hi => by simp [T.l] at hi⟩, by simp [T.l]⟩, ?_⟩
  simp only [T.depth, T.depthL]; omega
theorem Dr.more {D D' : Nat} {t : T} (h : Dr D t) (hD : D ≤ D') : Dr D' t := ⟨h.1, Nat.le_trans h.2 hD⟩
theorem nam_own {t : T} (h : namQ t) : ownQ t.k t.n t.x t.s 0 := by
  obtain ⟨_, hx, ⟨hk, h1, h2, h3⟩ | ⟨hk, h1, h2⟩⟩ := h
  · rw [hk, hx, h3]; exact (own3 _ _ _ _).2 ⟨dv_nil, rfl, rfl, by omega, by omega⟩
  · rw [hk, hx, h1]; refine (own7 _ _ _ _).2 ⟨rfl, rfl, rfl, ?_⟩
    simp only [List.mem_cons, List.not_mem_nil, or_false] at h2
    rcases h2 with h | h | h | h | h | h <;> rw [h] <;> rfl
theorem nam_size {t : T} (h : namQ t) : t.s.size ≤ 3 := by
  obtain ⟨_, hx, ⟨hk, h1, h2, h3⟩ | ⟨hk, h1, h2⟩⟩ := h
  · rw [h3]; decide
  · simp only [List.mem_cons, List.not_mem_nil, or_false] at h2
    rcases h2 with h | h | h | h | h | h <;> rw [h] <;> decide
theorem nam_dr {t : T} {D : Nat} (h : namQ t) (hD : 1 ≤ D) : Dr D t := by
  have h1 := nam_own h
  have h2 := nam_size h
  have h3 := h.1
  obtain ⟨k, n, x, s, l⟩ := t
  obtain rfl : l = [] := h3
  exact Dr.leaf h1 (by have : s.size ≤ 3 := h2; omega) hD
def LOk (D : Nat) (kd : Int) (l : List T) (par : Nat) : Prop := (∀ t ∈ l, Dr D t) ∧ (kd = 10 → l.length % 2 = par ∧ ∀ i (h : i < l.length), i % 2 = 0 → namQ l[i])
theorem LOk.nil (D : Nat) (kd : Int) : LOk D kd [] 0 := ⟨by simp, fun _ => ⟨rfl, fun i h => by simp at h⟩⟩
theorem LOk.skip {D : Nat} {l : List T} (h : LOk D 9 l 0) : LOk D 9 l 1 := ⟨h.1, fun h => absurd h (by decide)⟩
theorem LOk.name {D : Nat} {kd : Int} {l : List T} {t : T} (h : LOk D kd l 0) (ht : namQ t) (hD : 1 ≤ D) : LOk D kd (l ++ [t]) 1 := by
  refine ⟨fun u hu => ?_, fun hk => ?_⟩
  · rcases List.mem_append.1 hu with hu | hu
    · exact h.1 u hu
    · rw [List.mem_singleton.1 hu]; exact nam_dr ht hD
  · obtain ⟨h1, h2⟩ := h.2 hk
    refine ⟨by simp; omega, fun i hi hp => ?_⟩
    rcases Nat.lt_or_ge i l.length with hl | hl
    · rw [List.getElem_append_left hl]; exact h2 i hl hp
    · obtain rfl : i = l.length := by simp at hi; omega
      rw [List.getElem_concat_length rfl]; exact ht
theorem LOk.elem {D : Nat} {kd : Int} {l : List T} {t : T} (h : LOk D kd l 1) (ht : Dr D t) : LOk D kd (l ++ [t]) 0 := by
  refine ⟨fun u hu => ?_, fun hk => ?_⟩
  · rcases List.mem_append.1 hu with hu | hu
    · exact h.1 u hu
    · rw [List.mem_singleton.1 hu]; exact ht
  · obtain ⟨h1, h2⟩ := h.2 hk
    refine ⟨by simp; omega, fun i hi hp => ?_⟩
    rcases Nat.lt_or_ge i l.length with hl | hl
    · rw [List.getElem_append_left hl]; exact h2 i hl hp
    · obtain rfl : i = l.length := by simp at hi; omega
      omega
theorem depthL_le {D : Nat} : ∀ {l : List T}, (∀ t ∈ l, T.depth t ≤ D) → T.depthL l ≤ D := by
  intro l
  induction l with
  | nil => intro _; simp [T.depthL]
  | cons t r ih =>
    intro h
    simp only [T.depthL]
    have := h t (by simp)
    have := ih (fun u hu => h u (by simp [hu]))
    omega
theorem LOk.done {D : Nat} {kd : Int} {l : List T} (h : LOk D kd l 0) (hk : kd = 9 ∨ kd = 10) (hl : l.length ≤ 6) : Dr (D + 1) (.mk kd 0 0 ⟨#[]⟩ l) := by
  refine ⟨(AllT_iff _ _).2 ⟨⟨?_, (show (⟨#[]⟩ : ByteArray).size ≤ 12 by decide), hl, fun e => (h.2 e).2⟩, fun u hu => (h.1 u hu).1⟩, ?_⟩
  · rcases hk with rfl | rfl
    · exact (own9 _ _ _ _).2 ⟨dv_nil, rfl, rfl⟩
    · exact (own10 _ _ _ _).2 ⟨dv_nil, rfl, rfl, (h.2 rfl).1⟩
  · have := depthL_le (fun t ht => (h.1 t ht).2)
    simp only [T.depth]; omega
theorem Dr.tag {D : Nat} {t : T} {n : Int} (h : Dr D t) (h0 : 0 ≤ n) (h1 : n ≤ 1000000000000000) : Dr (D + 1) (.mk 11 n 0 ⟨#[]⟩ [t]) := by
  refine ⟨(AllT_iff _ _).2 ⟨⟨(own11 _ _ _ _).2 ⟨dv_nil, rfl, ⟨h0, h1⟩, rfl⟩, (show (⟨#[]⟩ : ByteArray).size ≤ 12 by decide), by simp [T.l], fun e => absurd (show (11 : Int) = 10 from e) (by decide)⟩, fun u hu => ?_⟩, ?_⟩
  · rw [List.mem_singleton.1 hu]; exact h.1
  · have := h.2
    simp only [T.depth, T.depthL]; omega
theorem dv_flt {m e : Int} (h0 : 0 ≤ m) (h1 : m ≤ 65535) (hp : m = 0 ∨ m % 2 = 1) (hm : m = 0 → e = 0) (he : -16 ≤ e) (h30 : e ≤ 30 ∨ (m = 1 ∧ e ≤ 45)) : fltOk m e ∧ fltOk (wrap64 (-m)) e := by
  have hw : wrap64 (-m) = -m := Go.IntWalk.wrap64_in (-m) ⟨by omega, by omega⟩
  rw [hw]
  by_cases hz : m = 0
  · have := hm hz; subst this; subst hz
    exact ⟨Or.inl ⟨rfl, rfl⟩, Or.inl ⟨rfl, rfl⟩⟩
  have ht : m.tmod 2 ≠ 0 := by rw [Int.tmod_eq_emod_of_nonneg h0]; omega
  have htn : (-m).tmod 2 ≠ 0 := by rw [Int.neg_tmod]; omega
  have key : e ≤ 30 ∨ (e ≤ 46 ∧ -65535 ≤ m * 2 ^ (e - 30).toNat ∧ m * 2 ^ (e - 30).toNat ≤ 65535) := by
    rcases h30 with h | ⟨rfl, h⟩
    · exact Or.inl h
    · by_cases h30 : e ≤ 30
      · exact Or.inl h30
      right
      have h5 : 2 ^ (e - 30).toNat ≤ 32768 := Nat.le_trans (Nat.pow_le_pow_right (by omega) (show (e - 30).toNat ≤ 15 by omega)) (by decide)
      have h8 : (2 : Int) ^ (e - 30).toNat = ((2 ^ (e - 30).toNat : Nat) : Int) := by simp
      rw [h8]
      clear h8
      generalize 2 ^ (e - 30).toNat = p at *
      exact ⟨by omega, by omega, by omega⟩
  refine ⟨Or.inr ⟨hz, ⟨by omega, h1⟩, ht, he, key⟩, Or.inr ⟨by omega, ⟨by omega, by omega⟩, htn, he, ?_⟩⟩
  rcases key with h | ⟨h1, h2, h3⟩
  · exact Or.inl h
  · refine Or.inr ⟨h1, ?_, ?_⟩ <;> rw [Int.neg_mul] <;> omega
theorem dv_dec (n : Int) (k : Nat) : decOk (decNewD n k).1.1 (decNewD n k).1.2 := by
  have h0 : decOk 0 0 := Or.inl ⟨rfl, by decide, by decide⟩
  unfold decNewD
  split
  · exact h0
  split
  · exact h0
  split
  · assumption
  · exact h0
theorem dv_dec15 : decOk 15 (-1) := Or.inr ⟨by decide, by decide, by decide +kernel, by decide⟩
theorem dv_num {m x : Int} (h : decOk m x) : (x = 0 ∧ ownQ 3 m 0 ⟨#[]⟩ 0) ∨ (x ≠ 0 ∧ ownQ 6 m x ⟨#[]⟩ 0) := by
  rcases h with ⟨rfl, h1, h2⟩ | ⟨h0, h1, h2, h3⟩
  · exact Or.inl ⟨rfl, (own3 _ _ _ _).2 ⟨dv_nil, rfl, rfl, h1, h2⟩⟩
  · exact Or.inr ⟨h0, (own6 _ _ _ _).2 ⟨dv_nil, rfl, by omega, Or.inr ⟨h0, h1, h2, h3⟩⟩⟩
theorem strOfNums_list (l : List Int) : (strOfNums l).data.toList = l.map (fun x => UInt8.ofNat x.toNat) := by simp [strOfNums]
theorem u8_toNat (n : Nat) (h : n < 256) : (UInt8.ofNat n).toNat = n := by rw [UInt8.toNat_ofNat']; exact Nat.mod_eq_of_lt h
set_option maxHeartbeats 4000000 in
theorem gr_enc (n : Int) (h : runeOk n) (r : List UInt8) : (grL ((encN n).map (fun x => UInt8.ofNat x.toNat) ++ r)).2 = (encN n).length := by
  obtain ⟨u, rfl⟩ : ∃ u : Nat, n = u := ⟨n.toNat, by have := h.1; omega⟩
  obtain ⟨⟨_, h1⟩, h2⟩ := h
  have hu : u ≤ 1114111 := by omega
  unfold encN
  by_cases c1 : u < 128
  · rw [if_pos (show (u : Int) < 128 from by omega)]
    simp only [List.map_cons, List.map_nil, List.cons_append, List.nil_append, Int.toNat_natCast]
    unfold grL grW
    simp only [List.getD_cons_zero]
    rw [u8_toNat u (by omega), if_pos c1]; rfl
  rw [if_neg (show ¬ (u : Int) < 128 from by omega)]
  by_cases c2 : u < 2048
  · rw [if_pos (show (u : Int) < 2048 from by omega)]
    simp only [List.map_cons, List.map_nil, List.cons_append, List.nil_append]
    rw [show (192 + (u : Int) / 64).toNat = 192 + u / 64 from by omega, show (128 + (u : Int) % 64).toNat = 128 + u % 64 from by omega]
    unfold grL grW
    simp only [List.getD_cons_zero, List.getD_cons_succ, List.length_cons]
    rw [u8_toNat (192 + u / 64) (by omega), u8_toNat (128 + u % 64) (by omega), if_neg (by omega), if_pos (by omega), if_pos (by omega)]; rfl
  rw [if_neg (show ¬ (u : Int) < 2048 from by omega)]
  by_cases c3 : u < 65536
  · rw [if_pos (show (u : Int) < 65536 from by omega)]
    simp only [List.map_cons, List.map_nil, List.cons_append, List.nil_append]
    rw [show (224 + (u : Int) / 4096).toNat = 224 + u / 4096 from by omega, show (128 + (u : Int) / 64 % 64).toNat = 128 + u / 64 % 64 from by omega, show (128 + (u : Int) % 64).toNat = 128 + u % 64 from by omega]
    unfold grL grW
    simp only [List.getD_cons_zero, List.getD_cons_succ, List.length_cons]
    rw [u8_toNat (224 + u / 4096) (by omega), u8_toNat (128 + u / 64 % 64) (by omega), u8_toNat (128 + u % 64) (by omega), if_neg (by omega), if_neg (by omega), if_pos (by omega), if_pos (by omega)]; rfl
  · rw [if_neg (show ¬ (u : Int) < 65536 from by omega)]
    simp only [List.map_cons, List.map_nil, List.cons_append, List.nil_append]
    rw [show (240 + (u : Int) / 262144).toNat = 240 + u / 262144 from by omega, show (128 + (u : Int) / 4096 % 64).toNat = 128 + u / 4096 % 64 from by omega, show (128 + (u : Int) / 64 % 64).toNat = 128 + u / 64 % 64 from by omega, show (128 + (u : Int) % 64).toNat = 128 + u % 64 from by omega]
    unfold grL grW
    simp only [List.getD_cons_zero, List.getD_cons_succ, List.length_cons]
    rw [u8_toNat (240 + u / 262144) (by omega), u8_toNat (128 + u / 4096 % 64) (by omega), u8_toNat (128 + u / 64 % 64) (by omega), u8_toNat (128 + u % 64) (by omega), if_neg (by omega), if_neg (by omega), if_neg (by omega), if_pos (by omega), if_pos (by omega)]; rfl
theorem enc_pos (n : Int) : encN n ≠ [] := by unfold encN; split; simp; split; simp; split <;> simp
theorem valid_enc (n : Int) (h : runeOk n) (r : List UInt8) : Lib.validD ((encN n).map (fun x => UInt8.ofNat x.toNat) ++ r) = Lib.validD r := by
  have hne : (encN n).map (fun x => UInt8.ofNat x.toNat) ++ r ≠ [] := by simp [enc_pos]
  have hl : (encN n).length ≠ 0 := by simp [enc_pos]
  rw [validD_gr _ hne, gr_enc n h r, if_neg hl, List.drop_append_of_le_length (by simp), List.drop_eq_nil_of_le (by simp), List.nil_append]
theorem valid_runes : ∀ (l : List Int), (∀ x ∈ l, runeOk x) → Lib.validD (strOfNums (l.flatMap encN)).data.toList = true := by
  intro l
  rw [strOfNums_list]
  induction l with
  | nil => intro _; exact Lib.validD_nil
  | cons x r ih =>
    intro h
    rw [List.flatMap_cons, List.map_append, valid_enc x (h x (by simp))]
    exact ih (fun y hy => h y (by simp [hy]))
set_option maxHeartbeats 2000000 in
theorem spec_l1New (a : Option Addr) (cap B : Nat) (l : List Int) (w : World) (hr : Rd EByte 1 w B a cap l) (hB : B ≤ w.heap.size) (hl : l.length ≤ 1048576) :
    Calls Tryz.prog 60 #[.slice a l.length cap] w fun e w' => ∃ A, e = .returned (.pointer (some ⟨A, 0, none⟩)) ∧ w.heap.size ≤ A ∧ Cur w' A ∧ Below w.heap.size w w' := by
  obtain ⟨hlc, hcap⟩ := hr.len
  have HR := Lib.hid hr; clear hr
  go_enter Tryz.func60, Tryz.ntmps60
  go_wp2_with fail
  go_loopw [3, 4] (fun h i wr => ∃ (m : Int) (j : Nat), h = .int .i64 m ∧ 0 ≤ m ∧ m ≤ 1073741823 ∧ i = .int .i64 j ∧ j ≤ l.length ∧ Below w.heap.size w wr) (fun _ i _ => l.length - (intOf i).toNat)
  case atStart => exact ⟨161919 + l.length, 0, by go_num, by omega, by omega, rfl, by omega, Below.refl _ _⟩
  case round =>
    obtain ⟨m, j, rfl, hm0, hm1, rfl, hj, hb⟩ := hrel
    have hbs := hb.size
    by_cases hgo : j < l.length ∧ j < 4000
    · obtain ⟨hg1, hg2⟩ := hgo
      obtain ⟨b, o, rfl, hbl, hcell, hx0, hx1⟩ := (HR.out.below EByte.loc hb hB).byte j hg1
      have hg3 : (j : Int) < 4000 := by omega
      have hg4 : (j : Int) < (l.length : Int) := by omega
      have hlb : b < wr.heap.size := by omega
      generalize l[j] = x at *
      have hb2 := bits_and (m * 137 + x + 11) 1073741823 (by decide) (by decide)
      go_wp2_with fail
      go_roundw
      case rel => exact ⟨_, j + 1, rfl, hb2.1, hb2.2, by go_num, by omega, hb⟩
      case measure => simp [intOf]; omega
    · by_cases hg1 : j < l.length
      · have hg3 : ¬ (j : Int) < 4000 := by omega
        have hg4 : (j : Int) < (l.length : Int) := by omega
        go_wp2_with fail
        go_ret
        refine ⟨wr.heap.size, rfl, hbs, ⟨a, cap, l, 0, m, Is.new wr _ _, ((HR.out.below EByte.loc hb hB).more (by omega)).below EByte.loc (below1 wr _) (Nat.le_refl _), by omega, ⟨by omega, by omega⟩, hl⟩, hb.trans ((below1 wr _).mono hbs)⟩
      · have hg4 : ¬ (j : Int) < (l.length : Int) := by omega
        go_wp2_with fail
        go_ret
        refine ⟨wr.heap.size, rfl, hbs, ⟨a, cap, l, 0, m, Is.new wr _ _, ((HR.out.below EByte.loc hb hB).more (by omega)).below EByte.loc (below1 wr _) (Nat.le_refl _), by omega, ⟨by omega, by omega⟩, hl⟩, hb.trans ((below1 wr _).mono hbs)⟩
set_option maxHeartbeats 2000000 in
theorem spec_l1Byte (A : Nat) (w : World) (hc : Cur w A) : Calls Tryz.prog 184 #[.pointer (some ⟨A, 0, none⟩)] w fun e w' => ∃ x : Nat, e = .returned (.int .i64 (x : Int)) ∧ x ≤ 255 ∧ Cur w' A ∧ Kp A w w' := by
  have hlt := hc.lt
  obtain ⟨a, cap, l, i, h, hI, hR, hi, hh, hl⟩ := hc
  obtain ⟨hlc, hcap⟩ := hR.len
  obtain ⟨c0, c1, c2⟩ := hI.cells3
  have ff := fun j => hI.frozen j
  have HR := Lib.hid hR; clear hR
  have HI := Lib.hid hI; clear hI
  go_enter Tryz.func184, Tryz.ntmps184
  go_wp2_with fail
  have h2b := wrap_i64 (wrap64 (h * 6364136223846793005) + 1442695040888963407)
  generalize (wrap64 (wrap64 (h * 6364136223846793005) + 1442695040888963407)) = h2 at *
  have HI2 := Lib.hid (HI.out.set 2 (.int .i64 h2))
  have hk2 : Kp A w (w.setCell ⟨A, 2, none⟩ (.int .i64 h2)) := ⟨(Below.refl _ _).setCell (p := ⟨A, 2, none⟩) (Nat.le_refl _) _, fun f hf _ => heap_miss _ _ _ _ (by omega) _⟩
  have HK2 := Lib.hid hk2; clear hk2
  generalize (w.setCell ⟨A, 2, none⟩ (.int .i64 h2)) = w2 at *
  obtain ⟨d0, d1, d2⟩ := HI2.out.cells3
  have fg := fun j => HI2.out.frozen j
  go_quiet (fail)
  have hx1 := bits_and (bits BinOp.xor IntKind.i64 (h2 / 8589934592) (h2 / 140737488355328)) 255 (by decide) (by decide)
  generalize bits BinOp.and IntKind.i64 (bits BinOp.xor IntKind.i64 (h2 / 8589934592) (h2 / 140737488355328)) 255 = x1 at *
  by_cases hgo : i < l.length
  · obtain ⟨b, o, rfl, hbl, hcell, hy0, hy1⟩ := (HR.out.below EByte.loc HK2.out.1 (Nat.le_refl _)).byte i hgo
    have hgz : (i : Int) < (l.length : Int) := by omega
    have hlb : b < w2.heap.size := by have := HK2.out.size; omega
    have hlA : A < w2.heap.size := by have := HK2.out.size; omega
    generalize l[i] = y at *
    go_wp2_with fail
    go_quiet (fail)
    go_wp2_with fail
    go_quiet (fail)
    go_wp2_with fail
    have hx2 := bits_and (x1 + y) 255 (by decide) (by decide)
    generalize bits BinOp.and IntKind.i64 (x1 + y) 255 = x2 at *
    obtain ⟨u, rfl⟩ : ∃ u : Nat, x2 = u := ⟨x2.toNat, by omega⟩
    go_ret
    have hh := fun k => Cur.next (w := w2) k HI2.out (HR.out.below EByte.loc HK2.out.1 (Nat.le_refl _)) hgo h2b hl
    exact ⟨u, rfl, by omega, (hh _).1, HK2.out.trans (hh _).2⟩
  · have hgz : ¬ (i : Int) < (l.length : Int) := by omega
    obtain ⟨u, rfl⟩ : ∃ u : Nat, x1 = u := ⟨x1.toNat, by omega⟩
    go_wp2_with fail
    go_quiet (fail)
    go_wp2_with fail
    go_ret
    have hcc := (Cur.stay (w := w2) 0 HI2.out (HR.out.below EByte.loc HK2.out.1 (Nat.le_refl _)) hi h2b hl).1
    exact ⟨u, rfl, by omega, (hcc.below (below_drewN (A + 1) w2 _) (by omega)).below (below_drewN (A + 1) _ _) (by omega), HK2.out.trans ((Kp.drewN _).trans (Kp.drewN _))⟩
theorem emod_le_self (a n : Int) (h : 0 ≤ a) (hn : 0 < n) : a % n ≤ a := by
  have h1 := Int.mul_ediv_add_emod a n
  have h2 : 0 ≤ a / n := Int.ediv_nonneg h (by omega)
  have h3 := Int.mul_nonneg (show 0 ≤ n by omega) h2
  omega
set_option maxHeartbeats 2000000 in
theorem spec_l1Below (A : Nat) (n : Int) (w : World) (hc : Cur w A) (hn : I64 n) : Calls Tryz.prog 116 #[.pointer (some ⟨A, 0, none⟩), .int .i64 n] w fun e w' => ∃ x : Nat, e = .returned (.int .i64 (x : Int)) ∧ ((x : Int) < n ∨ x = 0) ∧ x ≤ 16777215 ∧ Cur w' A ∧ Kp A w w' := by
  have HC := Lib.hid hc; clear hc
  obtain ⟨hn0, hn1⟩ := hn
  by_cases h0 : n ≤ 0
  · go_enter Tryz.func116, Tryz.ntmps116
    go_wp2_with fail
    go_ret
    exact ⟨0, rfl, Or.inr rfl, by omega, HC.out, Beside.refl _ _ _⟩
  by_cases h1 : n ≤ 256
  · go_enter Tryz.func116, Tryz.ntmps116
    go_wp2_with fail
    refine (spec_l1Byte A w HC.out).mono ?_
    rintro e w2 ⟨x, rfl, hx, hc2, hk2⟩
    have hne : (n == 0) = false := by simp; omega
    go_wp2_with fail
    go_ret
    have hm := Int.emod_lt_of_pos (x : Int) (show 0 < n by omega)
    have hm0 := Int.emod_nonneg (x : Int) (show n ≠ 0 by omega)
    obtain ⟨u, hu⟩ : ∃ u : Nat, (x : Int) % n = u := ⟨((x : Int) % n).toNat, by omega⟩
    exact ⟨u, by rw [← hu]; rfl, Or.inl (by omega), by omega, hc2, hk2⟩
  · go_enter Tryz.func116, Tryz.ntmps116
    go_wp2_with fail
    refine (spec_l1Byte A w HC.out).mono ?_
    rintro e w2 ⟨x, rfl, hx, hc2, hk2⟩
    have HC2 := Lib.hid hc2; have HK2 := Lib.hid hk2; clear hc2 hk2
    go_wp2_with fail
    refine (spec_l1Byte A w2 HC2.out).mono ?_
    rintro e w3 ⟨y, rfl, hy, hc3, hk3⟩
    have HC3 := Lib.hid hc3; have HK3 := Lib.hid (HK2.out.trans hk3); clear hc3 hk3
    go_wp2_with fail
    refine (spec_l1Byte A w3 HC3.out).mono ?_
    rintro e w4 ⟨z, rfl, hz, hc4, hk4⟩
    have HC4 := Lib.hid hc4; have HK4 := Lib.hid (HK3.out.trans hk4); clear hc4 hk4
    go_wp2_with fail
    go_ret
    have hm := Int.emod_lt_of_pos ((x : Int) * 65536 + y * 256 + z) (show 0 < n by omega)
    have hm0 := Int.emod_nonneg ((x : Int) * 65536 + y * 256 + z) (show n ≠ 0 by omega)
    have hm1 := emod_le_self ((x : Int) * 65536 + y * 256 + z) n (by omega) (by omega)
    obtain ⟨u, hu⟩ : ∃ u : Nat, ((x : Int) * 65536 + y * 256 + z) % n = u := ⟨(((x : Int) * 65536 + y * 256 + z) % n).toNat, by omega⟩
    exact ⟨u, by rw [← hu]; rfl, Or.inl (by omega), by omega, HC4.out, HK4.out⟩
set_option maxHeartbeats 2000000 in
theorem spec_l1Once (A : Nat) (n : Int) (w : World) (hc : Cur w A) (hn : I64 n) : Calls Tryz.prog 64 #[.pointer (some ⟨A, 0, none⟩), .int .i64 n] w fun e w' => ∃ b : Bool, e = .returned (.bool b) ∧ Cur w' A ∧ Kp A w w' := by
  have HC := Lib.hid hc; clear hc
  go_enter Tryz.func64, Tryz.ntmps64
  go_wp2_with fail
  refine (spec_l1Below A n w HC.out hn).mono ?_
  rintro e w2 ⟨x, rfl, hx, hx2, hc2, hk2⟩
  go_wp2_with fail
  go_ret
  exact ⟨_, rfl, hc2, hk2⟩
set_option maxHeartbeats 2000000 in
theorem spec_l1Int (A : Nat) (a : Option Addr) (cap : Nat) (l : List Int) (w : World) (hc : Cur w A) (hr : Rx EInt 1 w A a cap l) (hl : 0 < l.length) (hm : l.length ≤ 1000) :
    Calls Tryz.prog 94 #[.pointer (some ⟨A, 0, none⟩), .slice a l.length cap] w fun e w' => ∃ x, x ∈ l ∧ I64 x ∧ e = .returned (.int .i64 x) ∧ Cur w' A ∧ Kp A w w' := by
  have HC := Lib.hid hc; clear hc
  obtain ⟨hlc, hcap⟩ := hr.rd.len
  go_enter Tryz.func94, Tryz.ntmps94
  go_wp2_with fail
  refine (spec_l1Below A _ w HC.out ⟨by omega, by omega⟩).mono ?_
  rintro e w2 ⟨x, rfl, hx, hx2, hc2, hk2⟩
  have hxl : x < l.length := by omega
  have hxz : (x : Int) < (l.length : Int) := by omega
  obtain ⟨b, o, F, rfl, hb1, hb2, ⟨_, hcell, hi⟩, _⟩ := (hr.kp EInt.loc hk2).get x hxl
  rw [Nat.mul_one] at hcell
  go_wp2_with fail
  go_ret
  exact ⟨l[x], List.getElem_mem hxl, hi, rfl, hc2, hk2⟩
set_option maxHeartbeats 2000000 in
theorem spec_l1Str (A : Nat) (a : Option Addr) (cap : Nat) (l : List ByteArray) (w : World) (hc : Cur w A) (hr : Rx EStx 1 w A a cap l) (hl : 0 < l.length) (hm : l.length ≤ 1000) :
    Calls Tryz.prog 92 #[.pointer (some ⟨A, 0, none⟩), .slice a l.length cap] w fun e w' => ∃ x, x ∈ l ∧ e = .returned (.string x) ∧ Cur w' A ∧ Kp A w w' := by
  have HC := Lib.hid hc; clear hc
  obtain ⟨hlc, hcap⟩ := hr.rd.len
  go_enter Tryz.func92, Tryz.ntmps92
  go_wp2_with fail
  refine (spec_l1Below A _ w HC.out ⟨by omega, by omega⟩).mono ?_
  rintro e w2 ⟨x, rfl, hx, hx2, hc2, hk2⟩
  have hxl : x < l.length := by omega
  have hxz : (x : Int) < (l.length : Int) := by omega
  obtain ⟨b, o, F, rfl, hb1, hb2, ⟨_, hcell⟩, _⟩ := (hr.kp EStx.loc hk2).get x hxl
  rw [Nat.mul_one] at hcell
  go_wp2_with fail
  go_ret
  exact ⟨l[x], List.getElem_mem hxl, rfl, hc2, hk2⟩
theorem spec_l1IntL (A : Nat) (l : List Int) (e : TypeId) (w : World) (hc : Cur w A) (hx : ∀ x ∈ l, I64 x) (hl : 0 < l.length) (hm : l.length ≤ 1000) :
    Calls Tryz.prog 94 #[.pointer (some ⟨A, 0, none⟩), .slice (some ⟨w.heap.size, 0, none⟩) l.length l.length] (w.alloc (.cells (l.map (Value.int .i64)).toArray e)) fun e w' => ∃ x, x ∈ l ∧ I64 x ∧ e = .returned (.int .i64 x) ∧ Cur w' A ∧ Kp A w w' := by
  have hk := Kp.alloc (w := w) (Nat.le_of_lt hc.lt) (.cells (l.map (Value.int .i64)).toArray e)
  refine (spec_l1Int A _ _ l _ (hc.below (below1 w _) hc.lt) (ints_rx l (Is.new w _ e) hx (by have := hc.lt; omega) hl (by unfold maxLen; omega)) hl hm).mono ?_
  rintro ee w2 ⟨x, h1, h2, h3, h4, h5⟩
  exact ⟨x, h1, h2, h3, h4, hk.trans h5⟩
theorem spec_l1StrL (A : Nat) (l : List ByteArray) (e : TypeId) (w : World) (hc : Cur w A) (hl : 0 < l.length) (hm : l.length ≤ 1000) :
    Calls Tryz.prog 92 #[.pointer (some ⟨A, 0, none⟩), .slice (some ⟨w.heap.size, 0, none⟩) l.length l.length] (w.alloc (.cells (l.map Value.string).toArray e)) fun e w' => ∃ x, x ∈ l ∧ e = .returned (.string x) ∧ Cur w' A ∧ Kp A w w' := by
  have hk := Kp.alloc (w := w) (Nat.le_of_lt hc.lt) (.cells (l.map Value.string).toArray e)
  refine (spec_l1Str A _ _ l _ (hc.below (below1 w _) hc.lt) (strs_rx l (Is.new w _ e) (by have := hc.lt; omega) hl (by unfold maxLen; omega)) hl hm).mono ?_
  rintro ee w2 ⟨x, h1, h3, h4, h5⟩
  exact ⟨x, h1, h3, h4, hk.trans h5⟩
end Go.Proofs.YtggdenkmohnijaaGreatDoor
