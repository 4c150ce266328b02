/- Walks of package syntax: several, for each of its three callers. Conditions: the reader's cells are as RdS says; what the part's rule answers is told by its contract. -/
import Derived.Test.YtaijjnndnoicpaaReadB
import Derived.Test.YtaijjnndnoicpaaSynB
namespace Go.Eg
/-- How much a loop over signs has ahead of it. -/
def msr (b n : Nat) (w : World) : Nat := match w.cell? ⟨b, 3, none⟩ with
  | some (.bool false) => (match w.cell? ⟨b, 2, none⟩ with | some (.int _ x) => n + 1 - x.toNat | _ => 0)
  | _ => 0
theorem msr_good {w : World} {b : Nat} {k : Int} {s : ByteArray} {i : Nat} {v : Value} (n : Nat) (h : RdS w b k s i false v) : msr b n w = n + 1 - i := by
  simp [msr, h.c3, h.c2]
theorem msr_bad {w : World} {b : Nat} {k : Int} {s : ByteArray} {i : Nat} {v : Value} (n : Nat) (h : RdS w b k s i true v) : msr b n w = 0 := by
  simp [msr, h.c3]
/-- First this, then that. -/
def thenP (r : PR) (f : Nat → List Nd → PR) : PR := match r with
  | .error p => .error p
  | .ok (m, t) => f m t
theorem pk_range (s : ByteArray) (n i : Nat) : 0 ≤ pk (bt s) n i ∧ pk (bt s) n i ≤ 255 := by
  unfold pk
  split
  · exact bt_range s _
  · omega
end Go.Eg
namespace Go.Proofs.Ytaijjnndnoicpaa
open Go.RowKit Go.Eg

theorem St.go {w : World} {b : Nat} {k : Int} {s : ByteArray} {i : Nat} {bad : Bool} {out : List Nd} (h : St w b k s i bad out) {j : Nat} {x : Int} (hx : x = j) : St (w.setCell ⟨b, 2, none⟩ (.int .i64 x)) b k s j bad out := by
  obtain ⟨v, hR, ho⟩ := h
  exact ⟨v, hR.go hx, ho.set _ _ (Nat.lt_succ_self _) (fun _ h => h.elim)⟩
theorem St.mark {w : World} {b : Nat} {k : Int} {s : ByteArray} {i : Nat} {bad : Bool} {out : List Nd} (h : St w b k s i bad out) (y : Bool) : St (w.setCell ⟨b, 3, none⟩ (.bool y)) b k s i y out := by
  obtain ⟨v, hR, ho⟩ := h
  exact ⟨v, hR.mark y, ho.set _ _ (Nat.lt_succ_self _) (fun _ h => h.elim)⟩
theorem St.keep {w w' : World} {b : Nat} {k : Int} {s : ByteArray} {i : Nat} {bad : Bool} {out : List Nd} (h : St w b k s i bad out) (he : Ext w w') : St w' b k s i bad out := by
  obtain ⟨v, hR, ho⟩ := h
  exact ⟨v, hR.ext he, ho.ext he⟩
theorem St.lt {w : World} {b : Nat} {k : Int} {s : ByteArray} {i : Nat} {bad : Bool} {out : List Nd} (h : St w b k s i bad out) : b < w.heap.size := by
  obtain ⟨v, hR, ho⟩ := h
  exact hR.lt
theorem peek_st {w : World} {b : Nat} {k : Int} {s : ByteArray} {i : Nat} {bad : Bool} {out : List Nd} (h : St w b k s i bad out) (hi : i ≤ s.size) (hs : s.size ≤ 1000) :
    Calls Try.prog 20 #[.pointer (some ⟨b, 0, none⟩)] w fun e w' => e = .returned (.int .u8 (pk (bt s) s.size i)) ∧ St w' b k s (skipB (bt s) s.size i) bad out ∧ Below b w w' := by
  obtain ⟨v, hR, ho⟩ := h
  refine (peek_calls k s bad v b i w hR hi hs).mono ?_
  rintro e w' ⟨he, h1, h2⟩
  have hlt := hR.lt
  exact ⟨he, ⟨v, h1, ho.other h2 (fun k hk e => by have := ho.lo k hk; have := Option.some.inj e; omega) (fun _ h => h.elim)⟩, (Below.refl b w).grown h2 (by omega) (fun k hk => by have := Option.some.inj hk; omega)⟩

/-- What a rule of the grammar leaves: the places and nodes of r; where it broke, at most E nodes. -/
def Ans (b : Nat) (k : Int) (s : ByteArray) (out : List Nd) (E : Nat) (r : PR) (w : World) (e : Ending) (w' : World) : Prop :=
  e = .returned (.tuple #[]) ∧ Below b w w' ∧ match r with
    | .ok (m, t) => St w' b k s m false (out ++ t)
    | .error p => skipB (bt s) s.size p = p ∧ ∃ out', St w' b k s p true out' ∧ out'.length ≤ E
/-- The contract of a rule. -/
def Rule (F : Nat) (b : Nat) (k : Int) (s : ByteArray) (E f : Nat) (P : Nat → PR) : Prop :=
  ∀ (w : World) (i : Nat) (out : List Nd), St w b k s i false out → i ≤ s.size → out.length ≤ 2 * i → s.size - i < f → Calls Try.prog F #[.pointer (some ⟨b, 0, none⟩)] w (Ans b k s out E (P i) w)
--walks--
set_option maxHeartbeats 4000000 in
theorem sev_union (k : Int) (hk : k ≤ 8) (s : ByteArray) (hs : s.size ≤ 1000) (b E f : Nat) (hE : E ≤ 50000) (un : Nat → PR) (hu : ∀ j, j ≤ s.size → Gd s.size j (un j))
    (HP : Rule 35 b k s E f (intP k (bt s) s.size un)) (w : World) (i0 : Nat) (out : List Nd) (hS : St w b k s i0 false out) (hi0 : i0 ≤ s.size) (hl : out.length ≤ 2 * i0) (hf : s.size - i0 < f) :
    Calls Try.prog 34 #[.pointer (some ⟨b, 0, none⟩), .func (.func 35) #[.pointer (some ⟨b, 0, none⟩)] #[], .func (.func 36) #[.pointer (some ⟨b, 0, none⟩)] #[], .int .i64 5] w
      (Ans b k s out (E + 2) (thenP (intP k (bt s) s.size un i0) (uniL k (bt s) s.size un (s.size + 1))) w) := by
  have HG := intP_gd (c := bt s) hk hu hi0
  have HP0 := Lib.hid (HP w i0 out hS hi0 hl hf)
  have HP := Lib.hid HP
  obtain ⟨r0, hr0⟩ : ∃ r, r = intP k (bt s) s.size un i0 := ⟨_, rfl⟩
  rw [← hr0] at HG HP0 ⊢
  obtain ⟨r, HR⟩ : ∃ r, Hid (r = thenP r0 (uniL k (bt s) s.size un (s.size + 1))) := ⟨_, Lib.hid rfl⟩
  rw [← HR.out]
  go_enter Try.func34, Try.ntmps34
  go_wp2_with ((go_at_call 35); refine (HP0.out).mono ?_; rintro e w1 ⟨rfl, hb1, ha1⟩)
  go_loopw [8] (fun _ w' => (∃ (g i : Nat) (t : List Nd), St w' b k s i false (out ++ t) ∧ Hid (uniL k (bt s) s.size un g i t = r) ∧ s.size - i < g ∧ i0 < i ∧ i ≤ s.size ∧ (out ++ t).length + 1 ≤ 2 * i ∧ Below b w w') ∨ (∃ p out', Hid (r = .error p) ∧ skipB (bt s) s.size p = p ∧ St w' b k s p true out' ∧ out'.length ≤ E + 2 ∧ Below b w w')) (fun _ w' => msr b s.size w')
  case atStart =>
    match r0, HG, ha1, HR with
    | .ok (m, t), hg, ha, hr => exact .inl ⟨s.size + 1, m, t, ha, Lib.hid hr.out.symm, by omega, hg.1, hg.2.1, by have := hg.2.2.2; simp at this ⊢; omega, hb1⟩
    | .error p, hg, ha, hr =>
      obtain ⟨h1, out', h2, h3⟩ := ha
      exact .inr ⟨p, out', hr, h1, h2, by omega, hb1⟩
  case round =>
    clear HP0 hr0 HR HG ha1 hb1 hS hl
    rcases hrel with ⟨g, i, t, hSt, HL, hg, hii, hin, hlen, hbw⟩ | ⟨p, out', HL, hskp, hSt, hlen, hbw⟩
    · have hge := skip_ge (bt s) s.size i
      have hle := skip_le (c := bt s) hin
      have hHP := Lib.hid (peek_st hSt hin hs)
      have hms : ∀ {v}, RdS wr b k s i false v → msr b s.size wr = s.size + 1 - i := fun h => msr_good s.size h
      obtain ⟨v0, hR0, ho0⟩ := hSt
      have HMS := Lib.hid (hms hR0)
      have h3 := hR0.c3
      clear hR0 ho0 hms
      obtain ⟨g, rfl⟩ : ∃ g', g = g' + 1 := ⟨g - 1, by omega⟩
      obtain ⟨ch, hch⟩ : ∃ ch, ch = pk (bt s) s.size i := ⟨_, rfl⟩
      have hchr := pk_range s s.size i
      rw [← hch] at hHP hchr
      have HU : Hid (uniL k (bt s) s.size un (g + 1) i t = r) := HL
      clear HL
      have hJJ := Lib.hid (fun (W : World) (h : W.cell? ⟨b, 0, none⟩ = some (.int .i64 k)) => bar_calls ch (.pointer (some ⟨b, 0, none⟩)) W)
      by_cases hj : ch = 124
      · have hlt : skipB (bt s) s.size i < s.size := pk_lt (by rw [← hch]; rintro rfl; omega)
        have HG := intP_gd (c := bt s) hk hu (i := skipB (bt s) s.size i + 1) (by omega)
        have HQ := Lib.hid (fun w2 h => HP.out w2 (skipB (bt s) s.size i + 1) (out ++ t) h (by omega) (by omega) (by omega))
        have HE : Hid (thenP (intP k (bt s) s.size un (skipB (bt s) s.size i + 1)) (fun m u => uniL k (bt s) s.size un g m (t ++ u ++ [⟨5, 0⟩])) = r) := by
          refine Lib.hid (Eq.trans ?_ HU.out)
          conv => rhs; unfold uniL
          rw [← hch, if_pos hj]
          rfl
        generalize intP k (bt s) s.size un (skipB (bt s) s.size i + 1) = r1 at HG HQ HE
        generalize skipB (bt s) s.size i = q at *
        have hjt : decide (ch = 124) = true := by simp [hj]
        have hJT : Hid (∀ W : World, W.cell? ⟨b, 0, none⟩ = some (.int .i64 k) → Calls Try.prog 36 #[.pointer (some ⟨b, 0, none⟩), .int .u8 ch] W fun e w' => e = .returned (.bool true) ∧ w' = W) := Lib.hid (fun W h => by have := hJJ.out W h; rw [hjt] at this; exact this)
        have hc45 : (ch == 45) = false := by simp; omega
        clear HU hch hjt hJJ
        obtain rfl := hj
        match r1, HG, HQ, HE with
        | .ok (m, u), hg1, HQ, HE =>
          have HB1 : Hid ((out ++ t ++ u).length ≤ 90000) := Lib.hid (by have h1 := hg1.2.1; have h2 := hg1.2.2.2; simp only [List.length_append] at hlen h2 ⊢; omega)
          go_wp2_with (first
            | ((go_at_call 20; (with_reducible refine (hHP.out).mono ?_); rintro e w1 ⟨rfl, hs1, hb1⟩); have hs2 : St (w1.setCell ⟨b, 2, none⟩ (.int .i64 ((q : Int) + 1))) b k s (q + 1) false (out ++ t) := hs1.go (by omega); (obtain ⟨v1, hR1, ho1⟩ := hs1; have := (hR1).c0; have := (hR1).c2; have := (hR1).c3; have := (hR1).f2; have := (hR1).f3))
            | ((go_at_call 36; (with_reducible refine (hJT.out _ (by assumption)).mono ?_); rintro e w' ⟨rfl, hw⟩; obtain rfl := hw.symm))
            | ((go_at_call 35; (with_reducible refine (HQ.out _ hs2).mono ?_); rintro e w2 ⟨rfl, hb2, hs3⟩); have hs3 : St w2 b k s m false (out ++ t ++ u) := hs3)
            | ((go_at_call 45; (with_reducible refine (put_calls ⟨5, 0⟩ (by decide) k s m false (out ++ t ++ u) b w2 hs3 (Nat.le_trans HB1.out (by decide))).mono ?_); rintro e w3 ⟨rfl, hs4, hb4⟩)))
          have hx : St w3 b k s m false (out ++ (t ++ u ++ [⟨5, 0⟩])) := by have := hs4; simpa only [List.append_assoc] using this
          have hgg := hg1.2.2.2
          have hg1a := hg1.1
          have hg1b := hg1.2.1
          go_roundw
          case rel => exact .inl ⟨g, m, _, hx, HE, by omega, by omega, by omega, by simp at hlen hgg ⊢; omega, (((hbw.trans hb1).setCell (Nat.le_refl _) _).trans hb2).trans hb4⟩
          case measure =>
            obtain ⟨v9, hR9, _⟩ := hx
            rw [msr_good s.size hR9, HMS.out]
            omega
        | .error p, hg1, HQ, HE =>
          obtain rfl := HE.out
          go_wp2_with (first
            | ((go_at_call 20; (with_reducible refine (hHP.out).mono ?_); rintro e w1 ⟨rfl, hs1, hb1⟩); have hs2 : St (w1.setCell ⟨b, 2, none⟩ (.int .i64 ((q : Int) + 1))) b k s (q + 1) false (out ++ t) := hs1.go (by omega); (obtain ⟨v1, hR1, ho1⟩ := hs1; have := (hR1).c0; have := (hR1).c2; have := (hR1).c3; have := (hR1).f2; have := (hR1).f3))
            | ((go_at_call 36; (with_reducible refine (hJT.out _ (by assumption)).mono ?_); rintro e w' ⟨rfl, hw⟩; obtain rfl := hw.symm))
            | ((go_at_call 35; (with_reducible refine (HQ.out _ hs2).mono ?_); rintro e w2 ⟨rfl, hb2, hsk9, u, hs3, hl3⟩))
            | ((go_at_call 45; (with_reducible refine (put_calls ⟨5, 0⟩ (by decide) k s p true u b w2 hs3 (by omega)).mono ?_); rintro e w3 ⟨rfl, hs4, hb4⟩)))
          go_roundw
          case rel => exact .inr ⟨p, _, Lib.hid rfl, hsk9, hs4, by simp; omega, (((hbw.trans hb1).setCell (Nat.le_refl _) _).trans hb2).trans hb4⟩
          case measure =>
            obtain ⟨v9, hR9, _⟩ := hs4
            rw [msr_bad s.size hR9, HMS.out]
            omega
      · have HE : Hid (r = .ok (skipB (bt s) s.size i, t)) := by
          refine Lib.hid (HU.out.symm.trans ?_)
          conv => lhs; unfold uniL
          rw [← hch, if_neg hj]
        have hjf : decide (ch = 124) = false := by simp [hj]
        have hJT : Hid (∀ W : World, W.cell? ⟨b, 0, none⟩ = some (.int .i64 k) → Calls Try.prog 36 #[.pointer (some ⟨b, 0, none⟩), .int .u8 ch] W fun e w' => e = .returned (.bool false) ∧ w' = W) := Lib.hid (fun W h => by have := hJJ.out W h; rw [hjf] at this; exact this)
        clear HU hch hjf hJJ hj
        obtain rfl := HE.out
        go_wp2_with (first
          | ((go_at_call 20; (with_reducible refine (hHP.out).mono ?_); rintro e w1 ⟨rfl, hs1, hb1⟩); have hs2 := Lib.hid hs1; (obtain ⟨v1, hR1, ho1⟩ := hs1; have := (hR1).c0; have := (hR1).c2; have := (hR1).c3; have := (hR1).f2; have := (hR1).f3))
          | ((go_at_call 36; (with_reducible refine (hJT.out _ (by assumption)).mono ?_); rintro e w' ⟨rfl, hw⟩; obtain rfl := hw.symm)))
        (try simp only [Exit.inBlock, Exit.then]); refine bodyPost_ret (v := .tuple #[]) (by simp [results, Try.results34]) rfl ?_
        exact ⟨rfl, hbw.trans hb1, hs2.out⟩
    · have hHS := Lib.hid hSt
      obtain ⟨v0, hR0, ho0⟩ := hSt
      have h3 := hR0.c3
      obtain rfl := HL.out
      go_wp2_with fail
      (try simp only [Exit.inBlock, Exit.then]); refine bodyPost_end (v := .tuple #[]) (by simp [results, Try.results34]) rfl ?_
      exact ⟨rfl, hbw, hskp, out', hHS.out, hlen⟩
set_option maxHeartbeats 4000000 in
theorem sev_inter (k : Int) (hk : k ≤ 8) (s : ByteArray) (hs : s.size ≤ 1000) (b E f : Nat) (hE : E ≤ 50000) (un : Nat → PR) (hu : ∀ j, j ≤ s.size → Gd s.size j (un j))
    (HP : Rule 46 b k s E f (conP k (bt s) s.size un)) (w : World) (i0 : Nat) (out : List Nd) (hS : St w b k s i0 false out) (hi0 : i0 ≤ s.size) (hl : out.length ≤ 2 * i0) (hf : s.size - i0 < f) :
    Calls Try.prog 34 #[.pointer (some ⟨b, 0, none⟩), .func (.func 46) #[.pointer (some ⟨b, 0, none⟩)] #[], .func (.func 47) #[.pointer (some ⟨b, 0, none⟩)] #[], .int .i64 6] w
      (Ans b k s out (E + 2) (thenP (conP k (bt s) s.size un i0) (intL k (bt s) s.size un (s.size + 1))) w) := by
  have HG := conP_gd (c := bt s) hk hu hi0
  have HP0 := Lib.hid (HP w i0 out hS hi0 hl hf)
  have HP := Lib.hid HP
  obtain ⟨r0, hr0⟩ : ∃ r, r = conP k (bt s) s.size un i0 := ⟨_, rfl⟩
  rw [← hr0] at HG HP0 ⊢
  obtain ⟨r, HR⟩ : ∃ r, Hid (r = thenP r0 (intL k (bt s) s.size un (s.size + 1))) := ⟨_, Lib.hid rfl⟩
  rw [← HR.out]
  go_enter Try.func34, Try.ntmps34
  go_wp2_with ((go_at_call 46); refine (HP0.out).mono ?_; rintro e w1 ⟨rfl, hb1, ha1⟩)
  go_loopw [8] (fun _ w' => (∃ (g i : Nat) (t : List Nd), St w' b k s i false (out ++ t) ∧ Hid (intL k (bt s) s.size un g i t = r) ∧ s.size - i < g ∧ i0 < i ∧ i ≤ s.size ∧ (out ++ t).length + 1 ≤ 2 * i ∧ Below b w w') ∨ (∃ p out', Hid (r = .error p) ∧ skipB (bt s) s.size p = p ∧ St w' b k s p true out' ∧ out'.length ≤ E + 2 ∧ Below b w w')) (fun _ w' => msr b s.size w')
  case atStart =>
    match r0, HG, ha1, HR with
    | .ok (m, t), hg, ha, hr => exact .inl ⟨s.size + 1, m, t, ha, Lib.hid hr.out.symm, by omega, hg.1, hg.2.1, by have := hg.2.2.2; simp at this ⊢; omega, hb1⟩
    | .error p, hg, ha, hr =>
      obtain ⟨h1, out', h2, h3⟩ := ha
      exact .inr ⟨p, out', hr, h1, h2, by omega, hb1⟩
  case round =>
    clear HP0 hr0 HR HG ha1 hb1 hS hl
    rcases hrel with ⟨g, i, t, hSt, HL, hg, hii, hin, hlen, hbw⟩ | ⟨p, out', HL, hskp, hSt, hlen, hbw⟩
    · have hge := skip_ge (bt s) s.size i
      have hle := skip_le (c := bt s) hin
      have hHP := Lib.hid (peek_st hSt hin hs)
      have hms : ∀ {v}, RdS wr b k s i false v → msr b s.size wr = s.size + 1 - i := fun h => msr_good s.size h
      obtain ⟨v0, hR0, ho0⟩ := hSt
      have HMS := Lib.hid (hms hR0)
      have h3 := hR0.c3
      clear hR0 ho0 hms
      obtain ⟨g, rfl⟩ : ∃ g', g = g' + 1 := ⟨g - 1, by omega⟩
      obtain ⟨ch, hch⟩ : ∃ ch, ch = pk (bt s) s.size i := ⟨_, rfl⟩
      have hchr := pk_range s s.size i
      rw [← hch] at hHP hchr
      have HU : Hid (intL k (bt s) s.size un (g + 1) i t = r) := HL
      clear HL
      have hJJ := Lib.hid (fun (W : World) (h : W.cell? ⟨b, 0, none⟩ = some (.int .i64 k)) => and_calls ch (.pointer (some ⟨b, 0, none⟩)) W)
      by_cases hj0 : ch = 45
      · have hlt : skipB (bt s) s.size i < s.size := pk_lt (by rw [← hch]; rintro rfl; omega)
        have HG := conP_gd (c := bt s) hk hu (i := skipB (bt s) s.size i + 1) (by omega)
        have HQ := Lib.hid (fun w2 h => HP.out w2 (skipB (bt s) s.size i + 1) (out ++ t) h (by omega) (by omega) (by omega))
        have HE : Hid (thenP (conP k (bt s) s.size un (skipB (bt s) s.size i + 1)) (fun m u => intL k (bt s) s.size un g m (t ++ u ++ [⟨9, 0⟩] ++ [⟨6, 0⟩])) = r) := by
          refine Lib.hid (Eq.trans ?_ HU.out)
          conv => rhs; unfold intL
          rw [← hch, if_pos (.inr hj0)]
          rw [if_pos hj0]; simp only [List.append_assoc]; rfl
        generalize conP k (bt s) s.size un (skipB (bt s) s.size i + 1) = r1 at HG HQ HE
        generalize skipB (bt s) s.size i = q at *
        have hjt : decide (ch = 38 ∨ ch = 45) = true := by simp [hj0]
        have hJT : Hid (∀ W : World, W.cell? ⟨b, 0, none⟩ = some (.int .i64 k) → Calls Try.prog 47 #[.pointer (some ⟨b, 0, none⟩), .int .u8 ch] W fun e w' => e = .returned (.bool true) ∧ w' = W) := Lib.hid (fun W h => by have := hJJ.out W h; rw [hjt] at this; exact this)
        have hc45 : (ch == 45) = true := by simp [hj0]
        clear HU hch hjt hJJ
        obtain rfl := hj0
        match r1, HG, HQ, HE with
        | .ok (m, u), hg1, HQ, HE =>
          have HB1 : Hid ((out ++ t ++ u).length ≤ 90000) := Lib.hid (by have h1 := hg1.2.1; have h2 := hg1.2.2.2; simp only [List.length_append] at hlen h2 ⊢; omega)
          go_wp2_with (first
            | ((go_at_call 20; (with_reducible refine (hHP.out).mono ?_); rintro e w1 ⟨rfl, hs1, hb1⟩); have hs2 : St (w1.setCell ⟨b, 2, none⟩ (.int .i64 ((q : Int) + 1))) b k s (q + 1) false (out ++ t) := hs1.go (by omega); (obtain ⟨v1, hR1, ho1⟩ := hs1; have := (hR1).c0; have := (hR1).c2; have := (hR1).c3; have := (hR1).f2; have := (hR1).f3))
            | ((go_at_call 47; (with_reducible refine (hJT.out _ (by assumption)).mono ?_); rintro e w' ⟨rfl, hw⟩; obtain rfl := hw.symm))
            | ((go_at_call 46; (with_reducible refine (HQ.out _ hs2).mono ?_); rintro e w2 ⟨rfl, hb2, hs3⟩); have hs3 : St w2 b k s m false (out ++ t ++ u) := hs3)
            | ((go_at_call 45; (with_reducible refine (put_calls ⟨9, 0⟩ (by decide) k s m false (out ++ t ++ u) b w2 hs3 (Nat.le_trans HB1.out (by decide))).mono ?_); rintro e w3 ⟨rfl, hs5, hb5⟩))
            | ((go_at_call 45; (with_reducible refine (put_calls ⟨6, 0⟩ (by decide) k s m false (out ++ t ++ u ++ [⟨9, 0⟩]) b w3 hs5 (by have := HB1.out; rw [List.length_append (bs := [_])]; simp only [List.length_singleton]; omega)).mono ?_); rintro e w4 ⟨rfl, hs4, hb4⟩)))
          have hx : St w4 b k s m false (out ++ (t ++ u ++ [⟨9, 0⟩] ++ [⟨6, 0⟩])) := by have := hs4; simpa only [List.append_assoc] using this
          have hgg := hg1.2.2.2
          have hg1a := hg1.1
          have hg1b := hg1.2.1
          go_roundw
          case rel => exact .inl ⟨g, m, _, hx, HE, by omega, by omega, by omega, by simp at hlen hgg ⊢; omega, ((((hbw.trans hb1).setCell (Nat.le_refl _) _).trans hb2).trans hb5).trans hb4⟩
          case measure =>
            obtain ⟨v9, hR9, _⟩ := hx
            rw [msr_good s.size hR9, HMS.out]
            omega
        | .error p, hg1, HQ, HE =>
          obtain rfl := HE.out
          go_wp2_with (first
            | ((go_at_call 20; (with_reducible refine (hHP.out).mono ?_); rintro e w1 ⟨rfl, hs1, hb1⟩); have hs2 : St (w1.setCell ⟨b, 2, none⟩ (.int .i64 ((q : Int) + 1))) b k s (q + 1) false (out ++ t) := hs1.go (by omega); (obtain ⟨v1, hR1, ho1⟩ := hs1; have := (hR1).c0; have := (hR1).c2; have := (hR1).c3; have := (hR1).f2; have := (hR1).f3))
            | ((go_at_call 47; (with_reducible refine (hJT.out _ (by assumption)).mono ?_); rintro e w' ⟨rfl, hw⟩; obtain rfl := hw.symm))
            | ((go_at_call 46; (with_reducible refine (HQ.out _ hs2).mono ?_); rintro e w2 ⟨rfl, hb2, hsk9, u, hs3, hl3⟩))
            | ((go_at_call 45; (with_reducible refine (put_calls ⟨9, 0⟩ (by decide) k s p true u b w2 hs3 (by omega)).mono ?_); rintro e w3 ⟨rfl, hs5, hb5⟩))
            | ((go_at_call 45; (with_reducible refine (put_calls ⟨6, 0⟩ (by decide) k s p true (u ++ [⟨9, 0⟩]) b w3 hs5 (by simp; omega)).mono ?_); rintro e w4 ⟨rfl, hs4, hb4⟩)))
          go_roundw
          case rel => exact .inr ⟨p, _, Lib.hid rfl, hsk9, hs4, by simp; omega, ((((hbw.trans hb1).setCell (Nat.le_refl _) _).trans hb2).trans hb5).trans hb4⟩
          case measure =>
            obtain ⟨v9, hR9, _⟩ := hs4
            rw [msr_bad s.size hR9, HMS.out]
            omega
      by_cases hj : ch = 38
      · have hlt : skipB (bt s) s.size i < s.size := pk_lt (by rw [← hch]; rintro rfl; omega)
        have HG := conP_gd (c := bt s) hk hu (i := skipB (bt s) s.size i + 1) (by omega)
        have HQ := Lib.hid (fun w2 h => HP.out w2 (skipB (bt s) s.size i + 1) (out ++ t) h (by omega) (by omega) (by omega))
        have HE : Hid (thenP (conP k (bt s) s.size un (skipB (bt s) s.size i + 1)) (fun m u => intL k (bt s) s.size un g m (t ++ u ++ [⟨6, 0⟩])) = r) := by
          refine Lib.hid (Eq.trans ?_ HU.out)
          conv => rhs; unfold intL
          rw [← hch, if_pos (.inl hj)]
          rw [if_neg hj0]; simp only [List.append_nil]; rfl
        generalize conP k (bt s) s.size un (skipB (bt s) s.size i + 1) = r1 at HG HQ HE
        generalize skipB (bt s) s.size i = q at *
        have hjt : decide (ch = 38 ∨ ch = 45) = true := by simp [hj]
        have hJT : Hid (∀ W : World, W.cell? ⟨b, 0, none⟩ = some (.int .i64 k) → Calls Try.prog 47 #[.pointer (some ⟨b, 0, none⟩), .int .u8 ch] W fun e w' => e = .returned (.bool true) ∧ w' = W) := Lib.hid (fun W h => by have := hJJ.out W h; rw [hjt] at this; exact this)
        have hc45 : (ch == 45) = false := by simp; omega
        clear HU hch hjt hJJ
        (clear hj0; obtain rfl := hj)
        match r1, HG, HQ, HE with
        | .ok (m, u), hg1, HQ, HE =>
          have HB1 : Hid ((out ++ t ++ u).length ≤ 90000) := Lib.hid (by have h1 := hg1.2.1; have h2 := hg1.2.2.2; simp only [List.length_append] at hlen h2 ⊢; omega)
          go_wp2_with (first
            | ((go_at_call 20; (with_reducible refine (hHP.out).mono ?_); rintro e w1 ⟨rfl, hs1, hb1⟩); have hs2 : St (w1.setCell ⟨b, 2, none⟩ (.int .i64 ((q : Int) + 1))) b k s (q + 1) false (out ++ t) := hs1.go (by omega); (obtain ⟨v1, hR1, ho1⟩ := hs1; have := (hR1).c0; have := (hR1).c2; have := (hR1).c3; have := (hR1).f2; have := (hR1).f3))
            | ((go_at_call 47; (with_reducible refine (hJT.out _ (by assumption)).mono ?_); rintro e w' ⟨rfl, hw⟩; obtain rfl := hw.symm))
            | ((go_at_call 46; (with_reducible refine (HQ.out _ hs2).mono ?_); rintro e w2 ⟨rfl, hb2, hs3⟩); have hs3 : St w2 b k s m false (out ++ t ++ u) := hs3)
            | ((go_at_call 45; (with_reducible refine (put_calls ⟨6, 0⟩ (by decide) k s m false (out ++ t ++ u) b w2 hs3 (Nat.le_trans HB1.out (by decide))).mono ?_); rintro e w3 ⟨rfl, hs4, hb4⟩)))
          have hx : St w3 b k s m false (out ++ (t ++ u ++ [⟨6, 0⟩])) := by have := hs4; simpa only [List.append_assoc] using this
          have hgg := hg1.2.2.2
          have hg1a := hg1.1
          have hg1b := hg1.2.1
          go_roundw
          case rel => exact .inl ⟨g, m, _, hx, HE, by omega, by omega, by omega, by simp at hlen hgg ⊢; omega, (((hbw.trans hb1).setCell (Nat.le_refl _) _).trans hb2).trans hb4⟩
          case measure =>
            obtain ⟨v9, hR9, _⟩ := hx
            rw [msr_good s.size hR9, HMS.out]
            omega
        | .error p, hg1, HQ, HE =>
          obtain rfl := HE.out
          go_wp2_with (first
            | ((go_at_call 20; (with_reducible refine (hHP.out).mono ?_); rintro e w1 ⟨rfl, hs1, hb1⟩); have hs2 : St (w1.setCell ⟨b, 2, none⟩ (.int .i64 ((q : Int) + 1))) b k s (q + 1) false (out ++ t) := hs1.go (by omega); (obtain ⟨v1, hR1, ho1⟩ := hs1; have := (hR1).c0; have := (hR1).c2; have := (hR1).c3; have := (hR1).f2; have := (hR1).f3))
            | ((go_at_call 47; (with_reducible refine (hJT.out _ (by assumption)).mono ?_); rintro e w' ⟨rfl, hw⟩; obtain rfl := hw.symm))
            | ((go_at_call 46; (with_reducible refine (HQ.out _ hs2).mono ?_); rintro e w2 ⟨rfl, hb2, hsk9, u, hs3, hl3⟩))
            | ((go_at_call 45; (with_reducible refine (put_calls ⟨6, 0⟩ (by decide) k s p true u b w2 hs3 (by omega)).mono ?_); rintro e w3 ⟨rfl, hs4, hb4⟩)))
          go_roundw
          case rel => exact .inr ⟨p, _, Lib.hid rfl, hsk9, hs4, by simp; omega, (((hbw.trans hb1).setCell (Nat.le_refl _) _).trans hb2).trans hb4⟩
          case measure =>
            obtain ⟨v9, hR9, _⟩ := hs4
            rw [msr_bad s.size hR9, HMS.out]
            omega
      · have HE : Hid (r = .ok (skipB (bt s) s.size i, t)) := by
          refine Lib.hid (HU.out.symm.trans ?_)
          conv => lhs; unfold intL
          rw [← hch, if_neg (by simp [hj, hj0])]
        have hjf : decide (ch = 38 ∨ ch = 45) = false := by simp [hj, hj0]
        have hJT : Hid (∀ W : World, W.cell? ⟨b, 0, none⟩ = some (.int .i64 k) → Calls Try.prog 47 #[.pointer (some ⟨b, 0, none⟩), .int .u8 ch] W fun e w' => e = .returned (.bool false) ∧ w' = W) := Lib.hid (fun W h => by have := hJJ.out W h; rw [hjf] at this; exact this)
        clear HU hch hjf hJJ hj
        obtain rfl := HE.out
        go_wp2_with (first
          | ((go_at_call 20; (with_reducible refine (hHP.out).mono ?_); rintro e w1 ⟨rfl, hs1, hb1⟩); have hs2 := Lib.hid hs1; (obtain ⟨v1, hR1, ho1⟩ := hs1; have := (hR1).c0; have := (hR1).c2; have := (hR1).c3; have := (hR1).f2; have := (hR1).f3))
          | ((go_at_call 47; (with_reducible refine (hJT.out _ (by assumption)).mono ?_); rintro e w' ⟨rfl, hw⟩; obtain rfl := hw.symm)))
        (try simp only [Exit.inBlock, Exit.then]); refine bodyPost_ret (v := .tuple #[]) (by simp [results, Try.results34]) rfl ?_
        exact ⟨rfl, hbw.trans hb1, hs2.out⟩
    · have hHS := Lib.hid hSt
      obtain ⟨v0, hR0, ho0⟩ := hSt
      have h3 := hR0.c3
      obtain rfl := HL.out
      go_wp2_with fail
      (try simp only [Exit.inBlock, Exit.then]); refine bodyPost_end (v := .tuple #[]) (by simp [results, Try.results34]) rfl ?_
      exact ⟨rfl, hbw, hskp, out', hHS.out, hlen⟩
set_option maxHeartbeats 4000000 in
theorem sev_concat (k : Int) (hk : k ≤ 8) (s : ByteArray) (hs : s.size ≤ 1000) (b E f : Nat) (hE : E ≤ 50000) (un : Nat → PR) (hu : ∀ j, j ≤ s.size → Gd s.size j (un j))
    (HP : Rule 53 b k s E f (prefP k (bt s) s.size un)) (w : World) (i0 : Nat) (out : List Nd) (hS : St w b k s i0 false out) (hi0 : i0 ≤ s.size) (hl : out.length ≤ 2 * i0) (hf : s.size - i0 < f) :
    Calls Try.prog 34 #[.pointer (some ⟨b, 0, none⟩), .func (.func 53) #[.pointer (some ⟨b, 0, none⟩)] #[], .func (.func 54) #[.pointer (some ⟨b, 0, none⟩)] #[], .int .i64 7] w
      (Ans b k s out (E + 2) (thenP (prefP k (bt s) s.size un i0) (conL k (bt s) s.size un (s.size + 1))) w) := by
  have HG := prefP_gd (c := bt s) hk hu hi0
  have HP0 := Lib.hid (HP w i0 out hS hi0 hl hf)
  have HP := Lib.hid HP
  obtain ⟨r0, hr0⟩ : ∃ r, r = prefP k (bt s) s.size un i0 := ⟨_, rfl⟩
  rw [← hr0] at HG HP0 ⊢
  obtain ⟨r, HR⟩ : ∃ r, Hid (r = thenP r0 (conL k (bt s) s.size un (s.size + 1))) := ⟨_, Lib.hid rfl⟩
  rw [← HR.out]
  go_enter Try.func34, Try.ntmps34
  go_wp2_with ((go_at_call 53); refine (HP0.out).mono ?_; rintro e w1 ⟨rfl, hb1, ha1⟩)
  go_loopw [8] (fun _ w' => (∃ (g i : Nat) (t : List Nd), St w' b k s i false (out ++ t) ∧ Hid (conL k (bt s) s.size un g i t = r) ∧ s.size - i < g ∧ i0 < i ∧ i ≤ s.size ∧ (out ++ t).length + 1 ≤ 2 * i ∧ Below b w w') ∨ (∃ p out', Hid (r = .error p) ∧ skipB (bt s) s.size p = p ∧ St w' b k s p true out' ∧ out'.length ≤ E + 2 ∧ Below b w w')) (fun _ w' => msr b s.size w')
  case atStart =>
    match r0, HG, ha1, HR with
    | .ok (m, t), hg, ha, hr => exact .inl ⟨s.size + 1, m, t, ha, Lib.hid hr.out.symm, by omega, hg.1, hg.2.1, by have := hg.2.2.2; simp at this ⊢; omega, hb1⟩
    | .error p, hg, ha, hr =>
      obtain ⟨h1, out', h2, h3⟩ := ha
      exact .inr ⟨p, out', hr, h1, h2, by omega, hb1⟩
  case round =>
    clear HP0 hr0 HR HG ha1 hb1 hS hl
    rcases hrel with ⟨g, i, t, hSt, HL, hg, hii, hin, hlen, hbw⟩ | ⟨p, out', HL, hskp, hSt, hlen, hbw⟩
    · have hge := skip_ge (bt s) s.size i
      have hle := skip_le (c := bt s) hin
      have hHP := Lib.hid (peek_st hSt hin hs)
      have hms : ∀ {v}, RdS wr b k s i false v → msr b s.size wr = s.size + 1 - i := fun h => msr_good s.size h
      obtain ⟨v0, hR0, ho0⟩ := hSt
      have HMS := Lib.hid (hms hR0)
      have h3 := hR0.c3
      clear hR0 ho0 hms
      obtain ⟨g, rfl⟩ : ∃ g', g = g' + 1 := ⟨g - 1, by omega⟩
      obtain ⟨ch, hch⟩ : ∃ ch, ch = pk (bt s) s.size i := ⟨_, rfl⟩
      have hchr := pk_range s s.size i
      rw [← hch] at hHP hchr
      have HU : Hid (conL k (bt s) s.size un (g + 1) i t = r) := HL
      clear HL
      have hJJ := Lib.hid (fun (W : World) (h : W.cell? ⟨b, 0, none⟩ = some (.int .i64 k)) => begins_calls k ch hchr b W h)
      by_cases hj : begs k ch = true
      · have hlt : skipB (bt s) s.size i < s.size := pk_lt (by rw [← hch]; rintro rfl; exact begs_zero k hj)
        have HG := prefP_gd (c := bt s) hk hu (i := skipB (bt s) s.size i) (by omega)
        have HQ := Lib.hid (fun w2 h => HP.out w2 (skipB (bt s) s.size i) (out ++ t) h (by omega) (by omega) (by omega))
        have HE : Hid (thenP (prefP k (bt s) s.size un (skipB (bt s) s.size i)) (fun m u => conL k (bt s) s.size un g m (t ++ u ++ [⟨7, 0⟩])) = r) := by
          refine Lib.hid (Eq.trans ?_ HU.out)
          conv => rhs; unfold conL
          rw [← hch, if_pos hj]
          rfl
        generalize prefP k (bt s) s.size un (skipB (bt s) s.size i) = r1 at HG HQ HE
        generalize skipB (bt s) s.size i = q at *
        have hjt : begs k ch = true := by simp [hj]
        have hJT : Hid (∀ W : World, W.cell? ⟨b, 0, none⟩ = some (.int .i64 k) → Calls Try.prog 54 #[.pointer (some ⟨b, 0, none⟩), .int .u8 ch] W fun e w' => e = .returned (.bool true) ∧ w' = W) := Lib.hid (fun W h => by have := hJJ.out W h; rw [hjt] at this; exact this)
        have hc45 : (ch == 45) = false := by simp; rintro rfl; revert hj; simp [begs, isLet]
        clear HU hch hjt hJJ
        clear hj
        match r1, HG, HQ, HE with
        | .ok (m, u), hg1, HQ, HE =>
          have HB1 : Hid ((out ++ t ++ u).length ≤ 90000) := Lib.hid (by have h1 := hg1.2.1; have h2 := hg1.2.2.2; simp only [List.length_append] at hlen h2 ⊢; omega)
          go_wp2_with (first
            | ((go_at_call 20; (with_reducible refine (hHP.out).mono ?_); rintro e w1 ⟨rfl, hs1, hb1⟩); have hs2 : St w1 b k s (q) false (out ++ t) := hs1; (obtain ⟨v1, hR1, ho1⟩ := hs1; have := (hR1).c0; have := (hR1).c2; have := (hR1).c3; have := (hR1).f2; have := (hR1).f3))
            | ((go_at_call 54; (with_reducible refine (hJT.out _ (by assumption)).mono ?_); rintro e w' ⟨rfl, hw⟩; obtain rfl := hw.symm))
            | ((go_at_call 53; (with_reducible refine (HQ.out _ hs2).mono ?_); rintro e w2 ⟨rfl, hb2, hs3⟩); have hs3 : St w2 b k s m false (out ++ t ++ u) := hs3)
            | ((go_at_call 45; (with_reducible refine (put_calls ⟨7, 0⟩ (by decide) k s m false (out ++ t ++ u) b w2 hs3 (Nat.le_trans HB1.out (by decide))).mono ?_); rintro e w3 ⟨rfl, hs4, hb4⟩)))
          have hx : St w3 b k s m false (out ++ (t ++ u ++ [⟨7, 0⟩])) := by have := hs4; simpa only [List.append_assoc] using this
          have hgg := hg1.2.2.2
          have hg1a := hg1.1
          have hg1b := hg1.2.1
          go_roundw
          case rel => exact .inl ⟨g, m, _, hx, HE, by omega, by omega, by omega, by simp at hlen hgg ⊢; omega, ((hbw.trans hb1).trans hb2).trans hb4⟩
          case measure =>
            obtain ⟨v9, hR9, _⟩ := hx
            rw [msr_good s.size hR9, HMS.out]
            omega
        | .error p, hg1, HQ, HE =>
          obtain rfl := HE.out
          go_wp2_with (first
            | ((go_at_call 20; (with_reducible refine (hHP.out).mono ?_); rintro e w1 ⟨rfl, hs1, hb1⟩); have hs2 : St w1 b k s (q) false (out ++ t) := hs1; (obtain ⟨v1, hR1, ho1⟩ := hs1; have := (hR1).c0; have := (hR1).c2; have := (hR1).c3; have := (hR1).f2; have := (hR1).f3))
            | ((go_at_call 54; (with_reducible refine (hJT.out _ (by assumption)).mono ?_); rintro e w' ⟨rfl, hw⟩; obtain rfl := hw.symm))
            | ((go_at_call 53; (with_reducible refine (HQ.out _ hs2).mono ?_); rintro e w2 ⟨rfl, hb2, hsk9, u, hs3, hl3⟩))
            | ((go_at_call 45; (with_reducible refine (put_calls ⟨7, 0⟩ (by decide) k s p true u b w2 hs3 (by omega)).mono ?_); rintro e w3 ⟨rfl, hs4, hb4⟩)))
          go_roundw
          case rel => exact .inr ⟨p, _, Lib.hid rfl, hsk9, hs4, by simp; omega, ((hbw.trans hb1).trans hb2).trans hb4⟩
          case measure =>
            obtain ⟨v9, hR9, _⟩ := hs4
            rw [msr_bad s.size hR9, HMS.out]
            omega
      · have HE : Hid (r = .ok (skipB (bt s) s.size i, t)) := by
          refine Lib.hid (HU.out.symm.trans ?_)
          conv => lhs; unfold conL
          rw [← hch, if_neg hj]
        have hjf : begs k ch = false := by simp [hj]
        have hJT : Hid (∀ W : World, W.cell? ⟨b, 0, none⟩ = some (.int .i64 k) → Calls Try.prog 54 #[.pointer (some ⟨b, 0, none⟩), .int .u8 ch] W fun e w' => e = .returned (.bool false) ∧ w' = W) := Lib.hid (fun W h => by have := hJJ.out W h; rw [hjf] at this; exact this)
        clear HU hch hjf hJJ hj
        obtain rfl := HE.out
        go_wp2_with (first
          | ((go_at_call 20; (with_reducible refine (hHP.out).mono ?_); rintro e w1 ⟨rfl, hs1, hb1⟩); have hs2 := Lib.hid hs1; (obtain ⟨v1, hR1, ho1⟩ := hs1; have := (hR1).c0; have := (hR1).c2; have := (hR1).c3; have := (hR1).f2; have := (hR1).f3))
          | ((go_at_call 54; (with_reducible refine (hJT.out _ (by assumption)).mono ?_); rintro e w' ⟨rfl, hw⟩; obtain rfl := hw.symm)))
        (try simp only [Exit.inBlock, Exit.then]); refine bodyPost_ret (v := .tuple #[]) (by simp [results, Try.results34]) rfl ?_
        exact ⟨rfl, hbw.trans hb1, hs2.out⟩
    · have hHS := Lib.hid hSt
      obtain ⟨v0, hR0, ho0⟩ := hSt
      have h3 := hR0.c3
      obtain rfl := HL.out
      go_wp2_with fail
      (try simp only [Exit.inBlock, Exit.then]); refine bodyPost_end (v := .tuple #[]) (by simp [results, Try.results34]) rfl ?_
      exact ⟨rfl, hbw, hskp, out', hHS.out, hlen⟩
end Go.Proofs.Ytaijjnndnoicpaa
