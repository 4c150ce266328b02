/- Plain mathematics: how many bits are set. Conditions: none. -/
import Derived.Test.YtbmnjnmpjpdcmaaDoorFieldM
namespace Go.Eg

/-- How many of the first n hold. -/
def cnt (q : Nat → Bool) : Nat → Nat
  | 0 => 0
  | n + 1 => cnt q n + (if q n then 1 else 0)
theorem cnt_congr {q r : Nat → Bool} : ∀ {n : Nat}, (∀ k, k < n → q k = r k) → cnt q n = cnt r n
  | 0, _ => rfl
  | n + 1, h => by unfold cnt; rw [cnt_congr (fun k hk => h k (by omega)), h n (by omega)]
theorem cnt_add (q : Nat → Bool) (a : Nat) : ∀ b, cnt q (a + b) = cnt q a + cnt (fun k => q (a + k)) b
  | 0 => rfl
  | b + 1 => by
    show cnt q (a + b) + _ = cnt q a + (cnt _ b + _)
    rw [cnt_add q a b, Nat.add_assoc]; rfl
theorem cnt_le (q : Nat → Bool) : ∀ n, cnt q n ≤ n
  | 0 => Nat.le_refl _
  | n + 1 => by unfold cnt; have := cnt_le q n; split <;> omega

/-- Bytes, the lowest first. -/
def byv : List Nat → Nat
  | [] => 0
  | a :: l => a + 256 * byv l
theorem lane_and {a c : Nat} (b d : Nat) (ha : a < 256) (hc : c < 256) : (a + 256 * b) &&& (c + 256 * d) = (a &&& c) + 256 * (b &&& d) := by
  have hac : a &&& c < 2 ^ 8 := Nat.and_lt_two_pow _ hc
  apply Nat.eq_of_testBit_eq
  intro i
  rw [Nat.add_comm a, Nat.add_comm c, Nat.add_comm (a &&& c), Nat.testBit_and, show (256 : Nat) = 2 ^ 8 from rfl, Nat.testBit_two_pow_mul_add _ ha, Nat.testBit_two_pow_mul_add _ hc, Nat.testBit_two_pow_mul_add _ hac]
  split
  · rw [Nat.testBit_and]
  · rw [Nat.testBit_and]
def s1 (a : Nat) : Nat := (a / 2 &&& 85) + (a &&& 85)
def s2 (a : Nat) : Nat := (a / 4 &&& 51) + (a &&& 51)
def s3 (a : Nat) : Nat := (a / 16 + a) &&& 15
theorem low1 : ∀ a : Fin 256, ∀ t : Fin 2, ((a.val / 2 + 128 * t.val) &&& 85) = (a.val / 2 &&& 85) := by decide +kernel
theorem low2 : ∀ a : Fin 256, ∀ t : Fin 4, ((a.val / 4 + 64 * t.val) &&& 51) = (a.val / 4 &&& 51) := by decide +kernel
theorem s1_lt : ∀ a : Fin 256, s1 a.val < 256 := by decide +kernel
theorem s2_lt : ∀ a : Fin 256, s2 (s1 a.val) < 256 ∧ s2 (s1 a.val) % 16 ≤ 4 ∧ s2 (s1 a.val) / 16 ≤ 4 := by decide +kernel
theorem s3_is : ∀ a : Fin 256, s3 (s2 (s1 a.val)) = cnt a.val.testBit 8 := by decide +kernel
theorem low3 : ∀ a : Fin 69, ∀ t : Fin 5, ((a.val / 16 + a.val + 16 * t.val) &&& 15) = ((a.val / 16 + a.val) &&& 15) := by decide +kernel
theorem stage1 : ∀ l : List Nat, (∀ a ∈ l, a < 256) → (byv l / 2 &&& byv (l.map fun _ => 85)) + (byv l &&& byv (l.map fun _ => 85)) = byv (l.map s1)
  | [], _ => rfl
  | a :: l, h => by
    have ha := h a (List.mem_cons_self ..)
    have ih := stage1 l (fun x hx => h x (List.mem_cons_of_mem _ hx))
    simp only [List.map_cons, byv]
    rw [show (a + 256 * byv l) / 2 = (a / 2 + 128 * (byv l % 2)) + 256 * (byv l / 2) by omega, lane_and _ _ (by omega) (by decide), lane_and _ _ ha (by decide), low1 ⟨a, ha⟩ ⟨byv l % 2, Nat.mod_lt _ (by omega)⟩, ← ih]
    unfold s1
    show (a / 2 &&& 85) + _ + _ = _
    omega
theorem stage2 : ∀ l : List Nat, (∀ a ∈ l, a < 256) → (byv l / 4 &&& byv (l.map fun _ => 51)) + (byv l &&& byv (l.map fun _ => 51)) = byv (l.map s2)
  | [], _ => rfl
  | a :: l, h => by
    have ha := h a (List.mem_cons_self ..)
    have ih := stage2 l (fun x hx => h x (List.mem_cons_of_mem _ hx))
    simp only [List.map_cons, byv]
    rw [show (a + 256 * byv l) / 4 = (a / 4 + 64 * (byv l % 4)) + 256 * (byv l / 4) by omega, lane_and _ _ (by omega) (by decide), lane_and _ _ ha (by decide), low2 ⟨a, ha⟩ ⟨byv l % 4, Nat.mod_lt _ (by omega)⟩, ← ih]
    unfold s2
    show (a / 4 &&& 51) + _ + _ = _
    omega
theorem byv_mod16 {l : List Nat} (h : ∀ a ∈ l, a % 16 ≤ 4) : byv l % 16 ≤ 4 := by
  cases l with
  | nil => decide
  | cons a l =>
    have := h a (List.mem_cons_self ..)
    unfold byv; omega
theorem stage3 : ∀ l : List Nat, (∀ a ∈ l, a < 256 ∧ a % 16 ≤ 4 ∧ a / 16 ≤ 4) → (byv l / 16 + byv l) &&& byv (l.map fun _ => 15) = byv (l.map s3)
  | [], _ => rfl
  | a :: l, h => by
    obtain ⟨h1, h2, h3⟩ := h a (List.mem_cons_self ..)
    have ih := stage3 l (fun x hx => h x (List.mem_cons_of_mem _ hx))
    have h4 := byv_mod16 (l := l) (fun x hx => (h x (List.mem_cons_of_mem _ hx)).2.1)
    simp only [List.map_cons, byv]
    rw [show (a + 256 * byv l) / 16 + (a + 256 * byv l) = (a / 16 + a + 16 * (byv l % 16)) + 256 * (byv l / 16 + byv l) by omega, lane_and _ _ (by omega) (by decide), low3 ⟨a, by omega⟩ ⟨byv l % 16, by omega⟩, ih]
    rfl
/-- A word's bytes. -/
def bys (u : Nat) : List Nat := [u % 256, u / 256 % 256, u / 65536 % 256, u / 16777216 % 256, u / 4294967296 % 256, u / 1099511627776 % 256, u / 281474976710656 % 256, u / 72057594037927936 % 256]
theorem byv_bys {u : Nat} (h : u < 2 ^ 64) : byv (bys u) = u := by
  simp only [bys, byv]
  omega
theorem byv_lt : ∀ l : List Nat, (∀ a ∈ l, a < 256) → byv l < 256 ^ l.length
  | [], _ => by decide
  | a :: l, h => by
    have ha := h a (List.mem_cons_self ..)
    have ih := byv_lt l (fun x hx => h x (List.mem_cons_of_mem _ hx))
    simp only [byv, List.length_cons]
    rw [Nat.pow_succ]
    omega
def onesA (u : Nat) : Nat := (u / 2 &&& 6148914691236517205) + (u &&& 6148914691236517205)
def onesB (u : Nat) : Nat := (u / 4 &&& 3689348814741910323) + (u &&& 3689348814741910323)
def onesC (u : Nat) : Nat := (u / 16 + u) &&& 1085102592571150095
theorem byte_bit {u k : Nat} (i : Nat) (hk : k < 8) : (u / 256 ^ i % 256).testBit k = u.testBit (8 * i + k) := by
  rw [show (256 : Nat) = 2 ^ 8 from rfl, Nat.testBit_mod_two_pow, ← Nat.pow_mul, Nat.testBit_div_two_pow, decide_eq_true hk, Bool.true_and, Nat.add_comm]
theorem cnt_bytes (u : Nat) : cnt u.testBit 64 = ((bys u).map fun b => cnt b.testBit 8).sum := by
  have e : ∀ i, cnt (fun k => u.testBit (8 * i + k)) 8 = cnt (u / 256 ^ i % 256).testBit 8 := fun i => cnt_congr fun k hk => (byte_bit i hk).symm
  have f := fun i => cnt_add u.testBit (8 * i) 8
  have g0 := f 0; have g1 := f 1; have g2 := f 2; have g3 := f 3; have g4 := f 4; have g5 := f 5; have g6 := f 6; have g7 := f 7
  rw [e] at g0 g1 g2 g3 g4 g5 g6 g7
  simp only [Nat.mul_zero, Nat.zero_add, Nat.pow_zero, Nat.div_one, show cnt u.testBit 0 = 0 from rfl, Nat.reduceMul, Nat.reduceAdd, Nat.reducePow] at g0 g1 g2 g3 g4 g5 g6 g7
  simp only [bys, List.map_cons, List.map_nil, List.sum_cons, List.sum_nil]
  omega
theorem bys_lt (u : Nat) : ∀ a ∈ bys u, a < 256 := by
  intro a ha
  simp only [bys, List.mem_cons, List.not_mem_nil, or_false] at ha
  omega
theorem m85 (u : Nat) : byv ((bys u).map fun _ => 85) = 6148914691236517205 := by simp [bys, byv]
theorem m51 (u : Nat) : byv (((bys u).map s1).map fun _ => 51) = 3689348814741910323 := by simp [bys, byv]
theorem m15 (u : Nat) : byv ((((bys u).map s1).map s2).map fun _ => 15) = 1085102592571150095 := by simp [bys, byv]
theorem onesA_is {u : Nat} (h : u < 2 ^ 64) : onesA u = byv ((bys u).map s1) := by
  rw [← stage1 _ (bys_lt u), byv_bys h, m85]; rfl
theorem s1_all (u : Nat) : ∀ a ∈ (bys u).map s1, a < 256 := by
  intro a ha
  obtain ⟨b, hb, rfl⟩ := List.mem_map.1 ha
  exact s1_lt ⟨b, bys_lt u b hb⟩
theorem onesB_is {u : Nat} (h : u < 2 ^ 64) : onesB (onesA u) = byv (((bys u).map s1).map s2) := by
  rw [← stage2 _ (s1_all u), ← onesA_is h, m51]; rfl
theorem s2_all (u : Nat) : ∀ a ∈ ((bys u).map s1).map s2, a < 256 ∧ a % 16 ≤ 4 ∧ a / 16 ≤ 4 := by
  intro a ha
  obtain ⟨b, hb, rfl⟩ := List.mem_map.1 ha
  obtain ⟨c, hc, rfl⟩ := List.mem_map.1 hb
  exact s2_lt ⟨c, bys_lt u c hc⟩
theorem onesC_is {u : Nat} (h : u < 2 ^ 64) : onesC (onesB (onesA u)) = byv ((bys u).map fun b => cnt b.testBit 8) := by
  have e : (((bys u).map s1).map s2).map s3 = (bys u).map fun b => cnt b.testBit 8 := by
    rw [List.map_map, List.map_map]
    exact List.map_congr_left fun b hb => s3_is ⟨b, bys_lt u b hb⟩
  rw [← e, ← stage3 _ (s2_all u), ← onesB_is h, m15]; rfl
theorem onesA_lt {u : Nat} (h : u < 2 ^ 64) : onesA u < 2 ^ 64 := by rw [onesA_is h]; have := byv_lt _ (s1_all u); simpa [bys] using this
theorem onesB_lt {u : Nat} (h : u < 2 ^ 64) : onesB (onesA u) < 2 ^ 64 := by rw [onesB_is h]; have := byv_lt _ (fun a ha => (s2_all u a ha).1); simpa [bys] using this
/-- The last steps add the bytes. -/
theorem onesD {a b c d e f g h : Nat} (ha : a ≤ 8) (hb : b ≤ 8) (hc : c ≤ 8) (hd : d ≤ 8) (he : e ≤ 8) (hf : f ≤ 8) (hg : g ≤ 8) (hh : h ≤ 8) {y y4 y5 y6 : Nat} (hy : y = byv [a, b, c, d, e, f, g, h]) (h4 : y4 = y + y / 256) (h5 : y5 = y4 + y4 / 65536) (h6 : y6 = y5 + y5 / 4294967296) :
    y6 % 128 = a + b + c + d + e + f + g + h ∧ y < 2 ^ 60 ∧ y4 < 2 ^ 61 ∧ y5 < 2 ^ 62 ∧ y6 < 2 ^ 63 := by
  simp only [byv] at hy
  obtain ⟨R, hR⟩ : ∃ R, R = b + 256 * (c + 256 * (d + 256 * (e + 256 * (f + 256 * (g + 256 * h))))) := ⟨_, rfl⟩
  have e4 : y / 256 = R := by
    have : y = a + 256 * R := by omega
    rw [this]; clear hy hR this h4 h5 h6; omega
  obtain ⟨S, hS⟩ : ∃ S, S = (c + d) + 256 * ((d + e) + 256 * ((e + f) + 256 * ((f + g) + 256 * ((g + h) + 256 * h)))) := ⟨_, rfl⟩
  rw [e4] at h4
  have e5 : y4 / 65536 = S := by
    have : y4 = (a + b) + 256 * (b + c) + 65536 * S := by omega
    rw [this]; clear hy hR hS this h4 h5 h6 e4; omega
  obtain ⟨U, hU⟩ : ∃ U, U = (e + f + g + h) + 256 * ((f + g + h) + 256 * ((g + h) + 256 * h)) := ⟨_, rfl⟩
  rw [e5] at h5
  have e6 : y5 / 4294967296 = U := by
    have : y5 = (a + b + c + d) + 256 * (b + c + d + e) + 65536 * (c + d + e + f) + 16777216 * (d + e + f + g) + 4294967296 * U := by omega
    rw [this]; clear hy hR hS hU this h4 h5 h6 e4 e5; omega
  rw [e6] at h6
  clear e4 e5 e6
  have : y6 = (a + b + c + d + e + f + g + h) + 128 * (2 * (b + c + d + e + f + g + h + 256 * ((c + d + e + f + g + h) + 256 * ((d + e + f + g + h) + 256 * ((e + f + g + h) + 256 * ((f + g + h) + 256 * ((g + h) + 256 * h))))))) := by omega
  refine ⟨?_, ?_, ?_, ?_, ?_⟩
  · rw [this, Nat.add_mul_mod_self_left]; omega
  · omega
  · omega
  · omega
  · omega
end Go.Eg
