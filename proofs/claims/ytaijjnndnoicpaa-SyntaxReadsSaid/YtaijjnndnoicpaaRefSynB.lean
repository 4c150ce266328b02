/- Walks of the reference of chapter 4: union, inter, concat. Conditions: the reader's cells are as RdR says; what the part's rule answers is told by its contract. -/
import Derived.Test.YtaijjnndnoicpaaRefSynA
import Derived.Test.YtaijjnndnoicpaaSynB
import Derived.Test.YtaijjnndnoicpaaReadC
namespace Go.Eg
/-- How much a loop over signs has ahead of it. -/
def mrr (b n : Nat) (w : World) : Nat := match w.cell? ⟨b, 3, none⟩ with
  | some (.int _ y) => if y < 0 then (match w.cell? ⟨b, 2, none⟩ with | some (.int _ x) => n + 1 - x.toNat | _ => 0) else 0
  | _ => 0
theorem mrr_good {w : World} {b : Nat} {k : Int} {s : ByteArray} {i : Nat} (n : Nat) (h : RdR w b k s i (-1)) : mrr b n w = n + 1 - i := by simp [mrr, h.c3, h.c2]
theorem mrr_bad {w : World} {b : Nat} {k : Int} {s : ByteArray} {i p : Nat} (n : Nat) (h : RdR w b k s i p) : mrr b n w = 0 := by
  simp only [mrr, h.c3]
  rw [if_neg (by omega)]
end Go.Eg
namespace Go.Proofs.Ytaijjnndnoicpaa
open Go.RowKit Go.Eg

theorem ownGrow {w w' : World} {base b : Nat} {xs : List Nd} {v : Value} (h : Own tyNd 54 base No w xs v) (hg : w.grownBy w' (some b)) (hb : b < base) : Own tyNd 54 base No w' xs v :=
  h.other hg (fun k hk e => by have := h.lo k hk; have := Option.some.inj e; omega) (fun _ h => h.elim)
/-- What a rule of the reference leaves. -/
def AnsR (b : Nat) (k : Int) (s : ByteArray) (E : Nat) (r : PR) (w : World) (e : Ending) (w' : World) : Prop :=
  ∃ v t', e = .returned v ∧ Own tyNd 54 w.heap.size No w' t' v ∧ w.grownBy w' (some b) ∧ match r with
    | .ok (m, t) => t' = t ∧ RdR w' b k s m (-1)
    | .error p => RdR w' b k s p p ∧ t'.length ≤ E ∧ skipB (bt s) s.size p = p
def RuleR (F : Nat) (b : Nat) (k : Int) (s : ByteArray) (E f : Nat) (P : Nat → PR) : Prop :=
  ∀ (w : World) (i : Nat), RdR w b k s i (-1) → i ≤ s.size → s.size - i < f → Calls Try.prog F #[.pointer (some ⟨b, 0, none⟩)] w (AnsR b k s E (P i) w)
set_option maxHeartbeats 4000000 in
theorem rsev_union (k : Int) (hk : k ≤ 8) (s : ByteArray) (hs : s.size ≤ 1000) (b E f : Nat) (hE : E ≤ 10000000) (un : Nat → PR) (hu : ∀ j, j ≤ s.size → Gd s.size j (un j))
    (HP : RuleR 40 b k s E f (intP k (bt s) s.size un)) (w : World) (i0 : Nat) (hR0 : RdR w b k s i0 (-1)) (hi0 : i0 ≤ s.size) (hf : s.size - i0 < f) :
    Calls Try.prog 23 #[.pointer (some ⟨b, 0, none⟩)] w (AnsR b k s (E + 2002) (thenP (intP k (bt s) s.size un i0) (uniL k (bt s) s.size un (s.size + 1))) w) := by
  have hbw := hR0.lt
  have HG := intP_gd (c := bt s) hk hu hi0
  have HP0 := Lib.hid (HP w i0 hR0 hi0 hf)
  have HP := Lib.hid HP
  obtain ⟨r0, hr0⟩ : ∃ r, r = intP k (bt s) s.size un i0 := ⟨_, rfl⟩
  rw [← hr0] at HG HP0 ⊢
  obtain ⟨r, HR⟩ : ∃ r, Hid (r = thenP r0 (uniL k (bt s) s.size un (s.size + 1))) := ⟨_, Lib.hid rfl⟩
  rw [← HR.out]
  go_enter Try.func23, Try.ntmps23
  go_wp2_with ((go_at_call 40; (with_reducible refine (HP0.out).mono ?_); rintro e w1 ⟨v1, t1, rfl, ho1, hg1, ha1⟩))
  go_loopw [3, 4] (fun v3 _ w' => True ∧ ((∃ (g i : Nat) (t : List Nd), RdR w' b k s i (-1) ∧ Own tyNd 54 w.heap.size No w' t v3 ∧ Hid (uniL k (bt s) s.size un g i t = r) ∧ s.size - i < g ∧ i0 < i ∧ i ≤ s.size ∧ t.length ≤ 2 * i ∧ w.grownBy w' (some b)) ∨ (∃ (p : Nat) (t' : List Nd), Hid (r = .error p) ∧ skipB (bt s) s.size p = p ∧ RdR w' b k s p p ∧ Own tyNd 54 w.heap.size No w' t' v3 ∧ t'.length ≤ E + 2002 ∧ w.grownBy w' (some b)))) (fun _ _ w' => mrr b s.size w')
  case atStart =>
    match r0, HG, ha1, HR with
    | .ok (m, t), hg, ha, hr =>
      obtain ⟨rfl, ha⟩ := ha
      exact ⟨trivial, .inl ⟨s.size + 1, m, t1, ha, ho1, Lib.hid hr.out.symm, by omega, hg.1, hg.2.1, by have := hg.2.2.2; omega, hg1⟩⟩
    | .error p, hg, ha, hr =>
      obtain ⟨h1, h2, h3⟩ := ha
      exact ⟨trivial, .inr ⟨p, t1, hr, h3, h1, ho1, by omega, hg1⟩⟩
  case round =>
    clear HP0 hr0 HR HG ha1 ho1 hg1 hR0
    obtain ⟨_, hrel⟩ := hrel
    rcases hrel with ⟨g, i, t, hRi, ho, HL, hg, hii, hin, hlen, hgw⟩ | ⟨p, t', HL, hskp, hRp, ho, hlen, hgw⟩
    · have hge := skip_ge (bt s) s.size i
      have hle := skip_le (c := bt s) hin
      have hNX := Lib.hid (next_calls k s (-1) b i wr hRi hin hs)
      have HMS := Lib.hid (mrr_good s.size hRi)
      have h3 := hRi.c3
      have hbr := hRi.lt
      clear hRi
      obtain ⟨g, rfl⟩ : ∃ g', g = g' + 1 := ⟨g - 1, by omega⟩
      obtain ⟨ch, hch⟩ : ∃ ch, ch = pk (bt s) s.size i := ⟨_, rfl⟩
      have hchr := pk_range s s.size i
      rw [← hch] at hNX hchr
      have HU : Hid (uniL k (bt s) s.size un (g + 1) i t = r) := HL
      have HO := Lib.hid ho
      clear HL ho
      by_cases hj : ch = 124
      · have hlt : skipB (bt s) s.size i < s.size := pk_lt (by rw [← hch]; rintro rfl; omega)
        have HG := intP_gd (c := bt s) hk hu (i := skipB (bt s) s.size i + 1) (by omega)
        have HQ := Lib.hid (fun w2 h => HP.out w2 (skipB (bt s) s.size i + 1) h (by omega) (by omega))
        have HE : Hid (thenP (intP k (bt s) s.size un (skipB (bt s) s.size i + 1)) (fun m u => uniL k (bt s) s.size un g m (t ++ u ++ [⟨5, 0⟩])) = r) := by
          refine Lib.hid (Eq.trans ?_ HU.out)
          conv => rhs; unfold uniL
          rw [← hch, if_pos hj]
          rfl
        generalize intP k (bt s) s.size un (skipB (bt s) s.size i + 1) = r1 at HG HQ HE
        generalize skipB (bt s) s.size i = q at *
        skip
        clear HU hch
        obtain rfl := hj
        match r1, HG, HQ, HE with
        | .ok (m, u), hg1, HQ, HE =>
          have hgg := hg1.2.2.2
          have hg1a := hg1.1
          have hg1b := hg1.2.1
          go_wp2_with (first
            | ((go_at_call 24; (with_reducible refine (hNX.out).mono ?_); rintro e w1 ⟨rfl, hR1, hgn⟩); have c0 := hR1.c0; have c2 := hR1.c2; have c3 := hR1.c3; have f2 := hR1.f2; have hR2 : RdR (w1.setCell ⟨b, 2, none⟩ (.int .i64 ((q : Int) + 1))) b k s (q + 1) (-1) := hR1.go (by omega); have hgs : wr.grownBy (w1.setCell ⟨b, 2, none⟩ (.int .i64 ((q : Int) + 1))) (some b) := grown_trans hgn (grown_set _ _ _ _))
            
            | ((go_at_call 40; (with_reducible refine (HQ.out _ hR2).mono ?_); rintro e w2 ⟨v2, u', rfl, ho2, hg2, rfl, hR3⟩); have hot := ownGrow (ownGrow HO.out hgs hbw) hg2 hbw; have hs2 := hg2.size)
            | ((go_at_call 41; (with_reducible refine (join_calls t _ 5 _ _ w2 hot.rd ho2.rd (by omega) (by omega)).mono ?_); rintro e w3 ⟨v3', rfl, hoj, hxj⟩)))
          have hx : RdR w3 b k s m (-1) := hR3.ext hxj
          have hoj' := ownGrow (b := b) (hoj.rebase (base' := w.heap.size) (fun k hk => by have := hoj.lo k hk; have := hgw.size; have := hgs.size; have := hg2.size; skip; omega)) (grown_refl _ _) hbw
          go_roundw
          case rel => exact ⟨trivial, .inl ⟨g, m, _, hx, hoj', (by first | exact HE | (refine Lib.hid (Eq.trans ?_ HE.out); simp only [thenP, List.append_assoc, List.nil_append])), by omega, by omega, by omega, by simp at hlen hgg ⊢; omega, grown_trans (grown_trans (grown_trans hgw hgs) hg2) (hxj.grownBy _)⟩⟩
          case measure =>
            rw [mrr_good s.size hx, HMS.out]
            omega
        | .error p, hg1, HQ, HE =>
          obtain rfl := HE.out
          go_wp2_with (first
            | ((go_at_call 24; (with_reducible refine (hNX.out).mono ?_); rintro e w1 ⟨rfl, hR1, hgn⟩); have c0 := hR1.c0; have c2 := hR1.c2; have c3 := hR1.c3; have f2 := hR1.f2; have hR2 : RdR (w1.setCell ⟨b, 2, none⟩ (.int .i64 ((q : Int) + 1))) b k s (q + 1) (-1) := hR1.go (by omega); have hgs : wr.grownBy (w1.setCell ⟨b, 2, none⟩ (.int .i64 ((q : Int) + 1))) (some b) := grown_trans hgn (grown_set _ _ _ _))
            
            | ((go_at_call 40; (with_reducible refine (HQ.out _ hR2).mono ?_); rintro e w2 ⟨v2, u, rfl, ho2, hg2, hR3, hl3, hsk9⟩); have hot := ownGrow (ownGrow HO.out hgs hbw) hg2 hbw; have hs2 := hg2.size)
            | ((go_at_call 41; (with_reducible refine (join_calls t _ 5 _ _ w2 hot.rd ho2.rd (by omega) (by omega)).mono ?_); rintro e w3 ⟨v3', rfl, hoj, hxj⟩)))
          have hx : RdR w3 b k s p p := hR3.ext hxj
          have hoj' := ownGrow (b := b) (hoj.rebase (base' := w.heap.size) (fun k hk => by have := hoj.lo k hk; have := hgw.size; have := hgs.size; have := hg2.size; skip; omega)) (grown_refl _ _) hbw
          go_roundw
          case rel => exact ⟨trivial, .inr ⟨p, _, Lib.hid rfl, hsk9, hx, hoj', by simp at hlen hl3 ⊢; omega, grown_trans (grown_trans (grown_trans hgw hgs) hg2) (hxj.grownBy _)⟩⟩
          case measure =>
            rw [mrr_bad s.size hx, HMS.out]
            omega
      · have HE : Hid (r = .ok (skipB (bt s) s.size i, t)) := by
          refine Lib.hid (HU.out.symm.trans ?_)
          conv => lhs; unfold uniL
          rw [← hch, if_neg hj]
        have hn124 : (ch == 124) = false := by simp [hj]
        clear HU hch
        obtain rfl := HE.out
        go_wp2_with (first
          | ((go_at_call 24; (with_reducible refine (hNX.out).mono ?_); rintro e w1 ⟨rfl, hR1, hg1⟩); have c0 := hR1.c0)
          )
        go_ret
        exact ⟨_, t, rfl, ownGrow HO.out hg1 hbw, grown_trans hgw hg1, rfl, hR1⟩
    · have h3 := hRp.c3
      have hpz : decide ((p : Int) < 0) = false := by simp
      obtain rfl := HL.out
      have HO := Lib.hid ho
      clear ho
      go_wp2_with fail
      go_ret
      exact ⟨_, t', rfl, HO.out, hgw, hRp, hlen, hskp⟩
set_option maxHeartbeats 4000000 in
theorem rsev_inter (k : Int) (hk : k ≤ 8) (s : ByteArray) (hs : s.size ≤ 1000) (b E f : Nat) (hE : E ≤ 10000000) (un : Nat → PR) (hu : ∀ j, j ≤ s.size → Gd s.size j (un j))
    (HP : RuleR 50 b k s E f (conP k (bt s) s.size un)) (w : World) (i0 : Nat) (hR0 : RdR w b k s i0 (-1)) (hi0 : i0 ≤ s.size) (hf : s.size - i0 < f) :
    Calls Try.prog 40 #[.pointer (some ⟨b, 0, none⟩)] w (AnsR b k s (E + 2002) (thenP (conP k (bt s) s.size un i0) (intL k (bt s) s.size un (s.size + 1))) w) := by
  have hbw := hR0.lt
  have HG := conP_gd (c := bt s) hk hu hi0
  have HP0 := Lib.hid (HP w i0 hR0 hi0 hf)
  have HP := Lib.hid HP
  obtain ⟨r0, hr0⟩ : ∃ r, r = conP k (bt s) s.size un i0 := ⟨_, rfl⟩
  rw [← hr0] at HG HP0 ⊢
  obtain ⟨r, HR⟩ : ∃ r, Hid (r = thenP r0 (intL k (bt s) s.size un (s.size + 1))) := ⟨_, Lib.hid rfl⟩
  rw [← HR.out]
  go_enter Try.func40, Try.ntmps40
  go_wp2_with ((go_at_call 50; (with_reducible refine (HP0.out).mono ?_); rintro e w1 ⟨v1, t1, rfl, ho1, hg1, ha1⟩))
  go_loopw [3, 4, 5] (fun v3 _ _ w' => True ∧ ((∃ (g i : Nat) (t : List Nd), RdR w' b k s i (-1) ∧ Own tyNd 54 w.heap.size No w' t v3 ∧ Hid (intL k (bt s) s.size un g i t = r) ∧ s.size - i < g ∧ i0 < i ∧ i ≤ s.size ∧ t.length ≤ 2 * i ∧ w.grownBy w' (some b)) ∨ (∃ (p : Nat) (t' : List Nd), Hid (r = .error p) ∧ skipB (bt s) s.size p = p ∧ RdR w' b k s p p ∧ Own tyNd 54 w.heap.size No w' t' v3 ∧ t'.length ≤ E + 2002 ∧ w.grownBy w' (some b)))) (fun _ _ _ w' => mrr b s.size w')
  case atStart =>
    match r0, HG, ha1, HR with
    | .ok (m, t), hg, ha, hr =>
      obtain ⟨rfl, ha⟩ := ha
      exact ⟨trivial, .inl ⟨s.size + 1, m, t1, ha, ho1, Lib.hid hr.out.symm, by omega, hg.1, hg.2.1, by have := hg.2.2.2; omega, hg1⟩⟩
    | .error p, hg, ha, hr =>
      obtain ⟨h1, h2, h3⟩ := ha
      exact ⟨trivial, .inr ⟨p, t1, hr, h3, h1, ho1, by omega, hg1⟩⟩
  case round =>
    clear HP0 hr0 HR HG ha1 ho1 hg1 hR0
    obtain ⟨_, hrel⟩ := hrel
    rcases hrel with ⟨g, i, t, hRi, ho, HL, hg, hii, hin, hlen, hgw⟩ | ⟨p, t', HL, hskp, hRp, ho, hlen, hgw⟩
    · have hge := skip_ge (bt s) s.size i
      have hle := skip_le (c := bt s) hin
      have hNX := Lib.hid (next_calls k s (-1) b i wr hRi hin hs)
      have HMS := Lib.hid (mrr_good s.size hRi)
      have h3 := hRi.c3
      have hbr := hRi.lt
      clear hRi
      obtain ⟨g, rfl⟩ : ∃ g', g = g' + 1 := ⟨g - 1, by omega⟩
      obtain ⟨ch, hch⟩ : ∃ ch, ch = pk (bt s) s.size i := ⟨_, rfl⟩
      have hchr := pk_range s s.size i
      rw [← hch] at hNX hchr
      have HU : Hid (intL k (bt s) s.size un (g + 1) i t = r) := HL
      have HO := Lib.hid ho
      clear HL ho
      by_cases hj0 : ch = 45
      · have hlt : skipB (bt s) s.size i < s.size := pk_lt (by rw [← hch]; rintro rfl; omega)
        have HG := conP_gd (c := bt s) hk hu (i := skipB (bt s) s.size i + 1) (by omega)
        have HQ := Lib.hid (fun w2 h => HP.out w2 (skipB (bt s) s.size i + 1) h (by omega) (by omega))
        have HE : Hid (thenP (conP k (bt s) s.size un (skipB (bt s) s.size i + 1)) (fun m u => intL k (bt s) s.size un g m (t ++ u ++ [⟨9, 0⟩] ++ [⟨6, 0⟩])) = r) := by
          refine Lib.hid (Eq.trans ?_ HU.out)
          conv => rhs; unfold intL
          rw [← hch, if_pos (.inr hj0)]
          rw [if_pos hj0]; simp only [List.append_assoc]; rfl
        generalize conP k (bt s) s.size un (skipB (bt s) s.size i + 1) = r1 at HG HQ HE
        generalize skipB (bt s) s.size i = q at *
        skip
        clear HU hch
        obtain rfl := hj0
        match r1, HG, HQ, HE with
        | .ok (m, u), hg1, HQ, HE =>
          have hgg := hg1.2.2.2
          have hg1a := hg1.1
          have hg1b := hg1.2.1
          go_wp2_with (first
            | ((go_at_call 24; (with_reducible refine (hNX.out).mono ?_); rintro e w1 ⟨rfl, hR1, hgn⟩); have c0 := hR1.c0; have c2 := hR1.c2; have c3 := hR1.c3; have f2 := hR1.f2; have hR2 : RdR (w1.setCell ⟨b, 2, none⟩ (.int .i64 ((q : Int) + 1))) b k s (q + 1) (-1) := hR1.go (by omega); have hgs : wr.grownBy (w1.setCell ⟨b, 2, none⟩ (.int .i64 ((q : Int) + 1))) (some b) := grown_trans hgn (grown_set _ _ _ _))
            
            | ((go_at_call 50; (with_reducible refine (HQ.out _ hR2).mono ?_); rintro e w2 ⟨v2, u', rfl, ho2, hg2, rfl, hR3⟩); have hot := ownGrow (ownGrow HO.out hgs hbw) hg2 hbw; have hs2 := hg2.size)
            | ((go_at_call 41; (with_reducible refine (join_calls _ [] 9 _ _ w2 ho2.rd (Rd.nil _ _) (by omega) (by simp)).mono ?_); rintro e w3 ⟨v3', rfl, hok, hxk⟩); have hlk : ∀ z : List Nd, (z ++ [] ++ [(⟨9, 0⟩ : Nd)]).length = z.length + 1 := fun z => by simp)
            | ((go_at_call 41; (with_reducible refine (join_calls t _ 6 _ _ w3 (hot.ext hxk).rd hok.rd (by omega) (by rw [hlk]; omega)).mono ?_); rintro e w4 ⟨v4', rfl, hoj, hxj⟩)))
          have hx : RdR w4 b k s m (-1) := hR3.ext (hxk.trans hxj)
          have hoj' := ownGrow (b := b) (hoj.rebase (base' := w.heap.size) (fun k hk => by have := hoj.lo k hk; have := hgw.size; have := hgs.size; have := hg2.size; have := hxk.le; omega)) (grown_refl _ _) hbw
          go_roundw
          case rel => exact ⟨trivial, .inl ⟨g, m, _, hx, hoj', (by first | exact HE | (refine Lib.hid (Eq.trans ?_ HE.out); simp only [thenP, List.append_assoc, List.nil_append])), by omega, by omega, by omega, by simp at hlen hgg ⊢; omega, grown_trans (grown_trans (grown_trans hgw hgs) hg2) ((hxk.trans hxj).grownBy _)⟩⟩
          case measure =>
            rw [mrr_good s.size hx, HMS.out]
            omega
        | .error p, hg1, HQ, HE =>
          obtain rfl := HE.out
          go_wp2_with (first
            | ((go_at_call 24; (with_reducible refine (hNX.out).mono ?_); rintro e w1 ⟨rfl, hR1, hgn⟩); have c0 := hR1.c0; have c2 := hR1.c2; have c3 := hR1.c3; have f2 := hR1.f2; have hR2 : RdR (w1.setCell ⟨b, 2, none⟩ (.int .i64 ((q : Int) + 1))) b k s (q + 1) (-1) := hR1.go (by omega); have hgs : wr.grownBy (w1.setCell ⟨b, 2, none⟩ (.int .i64 ((q : Int) + 1))) (some b) := grown_trans hgn (grown_set _ _ _ _))
            
            | ((go_at_call 50; (with_reducible refine (HQ.out _ hR2).mono ?_); rintro e w2 ⟨v2, u, rfl, ho2, hg2, hR3, hl3, hsk9⟩); have hot := ownGrow (ownGrow HO.out hgs hbw) hg2 hbw; have hs2 := hg2.size)
            | ((go_at_call 41; (with_reducible refine (join_calls _ [] 9 _ _ w2 ho2.rd (Rd.nil _ _) (by omega) (by simp)).mono ?_); rintro e w3 ⟨v3', rfl, hok, hxk⟩); have hlk : ∀ z : List Nd, (z ++ [] ++ [(⟨9, 0⟩ : Nd)]).length = z.length + 1 := fun z => by simp)
            | ((go_at_call 41; (with_reducible refine (join_calls t _ 6 _ _ w3 (hot.ext hxk).rd hok.rd (by omega) (by rw [hlk]; omega)).mono ?_); rintro e w4 ⟨v4', rfl, hoj, hxj⟩)))
          have hx : RdR w4 b k s p p := hR3.ext (hxk.trans hxj)
          have hoj' := ownGrow (b := b) (hoj.rebase (base' := w.heap.size) (fun k hk => by have := hoj.lo k hk; have := hgw.size; have := hgs.size; have := hg2.size; have := hxk.le; omega)) (grown_refl _ _) hbw
          go_roundw
          case rel => exact ⟨trivial, .inr ⟨p, _, Lib.hid rfl, hsk9, hx, hoj', by simp at hlen hl3 ⊢; omega, grown_trans (grown_trans (grown_trans hgw hgs) hg2) ((hxk.trans hxj).grownBy _)⟩⟩
          case measure =>
            rw [mrr_bad s.size hx, HMS.out]
            omega
      by_cases hj : ch = 38
      · have hlt : skipB (bt s) s.size i < s.size := pk_lt (by rw [← hch]; rintro rfl; omega)
        have HG := conP_gd (c := bt s) hk hu (i := skipB (bt s) s.size i + 1) (by omega)
        have HQ := Lib.hid (fun w2 h => HP.out w2 (skipB (bt s) s.size i + 1) h (by omega) (by omega))
        have HE : Hid (thenP (conP k (bt s) s.size un (skipB (bt s) s.size i + 1)) (fun m u => intL k (bt s) s.size un g m (t ++ u ++ [⟨6, 0⟩])) = r) := by
          refine Lib.hid (Eq.trans ?_ HU.out)
          conv => rhs; unfold intL
          rw [← hch, if_pos (.inl hj)]
          rw [if_neg hj0]; simp only [List.append_nil]; rfl
        generalize conP k (bt s) s.size un (skipB (bt s) s.size i + 1) = r1 at HG HQ HE
        generalize skipB (bt s) s.size i = q at *
        skip
        clear HU hch
        (clear hj0; obtain rfl := hj)
        match r1, HG, HQ, HE with
        | .ok (m, u), hg1, HQ, HE =>
          have hgg := hg1.2.2.2
          have hg1a := hg1.1
          have hg1b := hg1.2.1
          go_wp2_with (first
            | ((go_at_call 24; (with_reducible refine (hNX.out).mono ?_); rintro e w1 ⟨rfl, hR1, hgn⟩); have c0 := hR1.c0; have c2 := hR1.c2; have c3 := hR1.c3; have f2 := hR1.f2; have hR2 : RdR (w1.setCell ⟨b, 2, none⟩ (.int .i64 ((q : Int) + 1))) b k s (q + 1) (-1) := hR1.go (by omega); have hgs : wr.grownBy (w1.setCell ⟨b, 2, none⟩ (.int .i64 ((q : Int) + 1))) (some b) := grown_trans hgn (grown_set _ _ _ _))
            
            | ((go_at_call 50; (with_reducible refine (HQ.out _ hR2).mono ?_); rintro e w2 ⟨v2, u', rfl, ho2, hg2, rfl, hR3⟩); have hot := ownGrow (ownGrow HO.out hgs hbw) hg2 hbw; have hs2 := hg2.size)
            | ((go_at_call 41; (with_reducible refine (join_calls t _ 6 _ _ w2 hot.rd ho2.rd (by omega) (by omega)).mono ?_); rintro e w3 ⟨v3', rfl, hoj, hxj⟩)))
          have hx : RdR w3 b k s m (-1) := hR3.ext hxj
          have hoj' := ownGrow (b := b) (hoj.rebase (base' := w.heap.size) (fun k hk => by have := hoj.lo k hk; have := hgw.size; have := hgs.size; have := hg2.size; skip; omega)) (grown_refl _ _) hbw
          go_roundw
          case rel => exact ⟨trivial, .inl ⟨g, m, _, hx, hoj', (by first | exact HE | (refine Lib.hid (Eq.trans ?_ HE.out); simp only [thenP, List.append_assoc, List.nil_append])), by omega, by omega, by omega, by simp at hlen hgg ⊢; omega, grown_trans (grown_trans (grown_trans hgw hgs) hg2) (hxj.grownBy _)⟩⟩
          case measure =>
            rw [mrr_good s.size hx, HMS.out]
            omega
        | .error p, hg1, HQ, HE =>
          obtain rfl := HE.out
          go_wp2_with (first
            | ((go_at_call 24; (with_reducible refine (hNX.out).mono ?_); rintro e w1 ⟨rfl, hR1, hgn⟩); have c0 := hR1.c0; have c2 := hR1.c2; have c3 := hR1.c3; have f2 := hR1.f2; have hR2 : RdR (w1.setCell ⟨b, 2, none⟩ (.int .i64 ((q : Int) + 1))) b k s (q + 1) (-1) := hR1.go (by omega); have hgs : wr.grownBy (w1.setCell ⟨b, 2, none⟩ (.int .i64 ((q : Int) + 1))) (some b) := grown_trans hgn (grown_set _ _ _ _))
            
            | ((go_at_call 50; (with_reducible refine (HQ.out _ hR2).mono ?_); rintro e w2 ⟨v2, u, rfl, ho2, hg2, hR3, hl3, hsk9⟩); have hot := ownGrow (ownGrow HO.out hgs hbw) hg2 hbw; have hs2 := hg2.size)
            | ((go_at_call 41; (with_reducible refine (join_calls t _ 6 _ _ w2 hot.rd ho2.rd (by omega) (by omega)).mono ?_); rintro e w3 ⟨v3', rfl, hoj, hxj⟩)))
          have hx : RdR w3 b k s p p := hR3.ext hxj
          have hoj' := ownGrow (b := b) (hoj.rebase (base' := w.heap.size) (fun k hk => by have := hoj.lo k hk; have := hgw.size; have := hgs.size; have := hg2.size; skip; omega)) (grown_refl _ _) hbw
          go_roundw
          case rel => exact ⟨trivial, .inr ⟨p, _, Lib.hid rfl, hsk9, hx, hoj', by simp at hlen hl3 ⊢; omega, grown_trans (grown_trans (grown_trans hgw hgs) hg2) (hxj.grownBy _)⟩⟩
          case measure =>
            rw [mrr_bad s.size hx, HMS.out]
            omega
      · have HE : Hid (r = .ok (skipB (bt s) s.size i, t)) := by
          refine Lib.hid (HU.out.symm.trans ?_)
          conv => lhs; unfold intL
          rw [← hch, if_neg (by simp [hj, hj0])]
        have hn1 : (ch != 38) = true := by simp [hj]
        have hn2 : (ch != 45) = true := by simp [hj0]
        clear HU hch
        obtain rfl := HE.out
        go_wp2_with (first
          | ((go_at_call 24; (with_reducible refine (hNX.out).mono ?_); rintro e w1 ⟨rfl, hR1, hg1⟩); have c0 := hR1.c0)
          )
        go_ret
        exact ⟨_, t, rfl, ownGrow HO.out hg1 hbw, grown_trans hgw hg1, rfl, hR1⟩
    · have h3 := hRp.c3
      have hpz : decide ((p : Int) < 0) = false := by simp
      obtain rfl := HL.out
      have HO := Lib.hid ho
      clear ho
      go_wp2_with fail
      go_ret
      exact ⟨_, t', rfl, HO.out, hgw, hRp, hlen, hskp⟩
set_option maxHeartbeats 4000000 in
theorem rsev_concat (k : Int) (hk : k ≤ 8) (s : ByteArray) (hs : s.size ≤ 1000) (b E f : Nat) (hE : E ≤ 10000000) (un : Nat → PR) (hu : ∀ j, j ≤ s.size → Gd s.size j (un j))
    (HP : RuleR 55 b k s E f (prefP k (bt s) s.size un)) (w : World) (i0 : Nat) (hR0 : RdR w b k s i0 (-1)) (hi0 : i0 ≤ s.size) (hf : s.size - i0 < f) :
    Calls Try.prog 50 #[.pointer (some ⟨b, 0, none⟩)] w (AnsR b k s (E + 2002) (thenP (prefP k (bt s) s.size un i0) (conL k (bt s) s.size un (s.size + 1))) w) := by
  have hbw := hR0.lt
  have HG := prefP_gd (c := bt s) hk hu hi0
  have HP0 := Lib.hid (HP w i0 hR0 hi0 hf)
  have HP := Lib.hid HP
  obtain ⟨r0, hr0⟩ : ∃ r, r = prefP k (bt s) s.size un i0 := ⟨_, rfl⟩
  rw [← hr0] at HG HP0 ⊢
  obtain ⟨r, HR⟩ : ∃ r, Hid (r = thenP r0 (conL k (bt s) s.size un (s.size + 1))) := ⟨_, Lib.hid rfl⟩
  rw [← HR.out]
  go_enter Try.func50, Try.ntmps50
  go_wp2_with ((go_at_call 55; (with_reducible refine (HP0.out).mono ?_); rintro e w1 ⟨v1, t1, rfl, ho1, hg1, ha1⟩))
  go_loopw [3, 4] (fun v3 _ w' => True ∧ ((∃ (g i : Nat) (t : List Nd), RdR w' b k s i (-1) ∧ Own tyNd 54 w.heap.size No w' t v3 ∧ Hid (conL k (bt s) s.size un g i t = r) ∧ s.size - i < g ∧ i0 < i ∧ i ≤ s.size ∧ t.length ≤ 2 * i ∧ w.grownBy w' (some b)) ∨ (∃ (p : Nat) (t' : List Nd), Hid (r = .error p) ∧ skipB (bt s) s.size p = p ∧ RdR w' b k s p p ∧ Own tyNd 54 w.heap.size No w' t' v3 ∧ t'.length ≤ E + 2002 ∧ w.grownBy w' (some b)))) (fun _ _ w' => mrr b s.size w')
  case atStart =>
    match r0, HG, ha1, HR with
    | .ok (m, t), hg, ha, hr =>
      obtain ⟨rfl, ha⟩ := ha
      exact ⟨trivial, .inl ⟨s.size + 1, m, t1, ha, ho1, Lib.hid hr.out.symm, by omega, hg.1, hg.2.1, by have := hg.2.2.2; omega, hg1⟩⟩
    | .error p, hg, ha, hr =>
      obtain ⟨h1, h2, h3⟩ := ha
      exact ⟨trivial, .inr ⟨p, t1, hr, h3, h1, ho1, by omega, hg1⟩⟩
  case round =>
    clear HP0 hr0 HR HG ha1 ho1 hg1 hR0
    obtain ⟨_, hrel⟩ := hrel
    rcases hrel with ⟨g, i, t, hRi, ho, HL, hg, hii, hin, hlen, hgw⟩ | ⟨p, t', HL, hskp, hRp, ho, hlen, hgw⟩
    · have hge := skip_ge (bt s) s.size i
      have hle := skip_le (c := bt s) hin
      have hNX := Lib.hid (next_calls k s (-1) b i wr hRi hin hs)
      have HMS := Lib.hid (mrr_good s.size hRi)
      have h3 := hRi.c3
      have hbr := hRi.lt
      clear hRi
      obtain ⟨g, rfl⟩ : ∃ g', g = g' + 1 := ⟨g - 1, by omega⟩
      obtain ⟨ch, hch⟩ : ∃ ch, ch = pk (bt s) s.size i := ⟨_, rfl⟩
      have hchr := pk_range s s.size i
      rw [← hch] at hNX hchr
      have HU : Hid (conL k (bt s) s.size un (g + 1) i t = r) := HL
      have HO := Lib.hid ho
      clear HL ho
      by_cases hj : begs k ch = true
      · have hlt : skipB (bt s) s.size i < s.size := pk_lt (by rw [← hch]; rintro rfl; exact begs_zero k hj)
        have HG := prefP_gd (c := bt s) hk hu (i := skipB (bt s) s.size i) (by omega)
        have HQ := Lib.hid (fun w2 h => HP.out w2 (skipB (bt s) s.size i) h (by omega) (by omega))
        have HE : Hid (thenP (prefP k (bt s) s.size un (skipB (bt s) s.size i)) (fun m u => conL k (bt s) s.size un g m (t ++ u ++ [⟨7, 0⟩])) = r) := by
          refine Lib.hid (Eq.trans ?_ HU.out)
          conv => rhs; unfold conL
          rw [← hch, if_pos hj]
          rfl
        generalize prefP k (bt s) s.size un (skipB (bt s) s.size i) = r1 at HG HQ HE
        generalize skipB (bt s) s.size i = q at *
        have hJT := Lib.hid (fun (W : World) (h : W.cell? ⟨b, 0, none⟩ = some (.int .i64 k)) => by have := rbegins_calls k ch hchr b W h; rw [hj] at this; exact this)
        clear HU hch
        clear hj
        match r1, HG, HQ, HE with
        | .ok (m, u), hg1, HQ, HE =>
          have hgg := hg1.2.2.2
          have hg1a := hg1.1
          have hg1b := hg1.2.1
          go_wp2_with (first
            | ((go_at_call 24; (with_reducible refine (hNX.out).mono ?_); rintro e w1 ⟨rfl, hR1, hgn⟩); have c0 := hR1.c0; have c2 := hR1.c2; have c3 := hR1.c3; have f2 := hR1.f2; have hR2 : RdR w1 b k s (q) (-1) := hR1; have hgs : wr.grownBy w1 (some b) := hgn)
            | ((go_at_call 56; (with_reducible refine (hJT.out _ (by assumption)).mono ?_); rintro e w' ⟨rfl, hw⟩; obtain rfl := hw.symm))
            | ((go_at_call 55; (with_reducible refine (HQ.out _ hR2).mono ?_); rintro e w2 ⟨v2, u', rfl, ho2, hg2, rfl, hR3⟩); have hot := ownGrow (ownGrow HO.out hgs hbw) hg2 hbw; have hs2 := hg2.size)
            | ((go_at_call 41; (with_reducible refine (join_calls t _ 7 _ _ w2 hot.rd ho2.rd (by omega) (by omega)).mono ?_); rintro e w3 ⟨v3', rfl, hoj, hxj⟩)))
          have hx : RdR w3 b k s m (-1) := hR3.ext hxj
          have hoj' := ownGrow (b := b) (hoj.rebase (base' := w.heap.size) (fun k hk => by have := hoj.lo k hk; have := hgw.size; have := hgs.size; have := hg2.size; skip; omega)) (grown_refl _ _) hbw
          go_roundw
          case rel => exact ⟨trivial, .inl ⟨g, m, _, hx, hoj', (by first | exact HE | (refine Lib.hid (Eq.trans ?_ HE.out); simp only [thenP, List.append_assoc, List.nil_append])), by omega, by omega, by omega, by simp at hlen hgg ⊢; omega, grown_trans (grown_trans (grown_trans hgw hgs) hg2) (hxj.grownBy _)⟩⟩
          case measure =>
            rw [mrr_good s.size hx, HMS.out]
            omega
        | .error p, hg1, HQ, HE =>
          obtain rfl := HE.out
          go_wp2_with (first
            | ((go_at_call 24; (with_reducible refine (hNX.out).mono ?_); rintro e w1 ⟨rfl, hR1, hgn⟩); have c0 := hR1.c0; have c2 := hR1.c2; have c3 := hR1.c3; have f2 := hR1.f2; have hR2 : RdR w1 b k s (q) (-1) := hR1; have hgs : wr.grownBy w1 (some b) := hgn)
            | ((go_at_call 56; (with_reducible refine (hJT.out _ (by assumption)).mono ?_); rintro e w' ⟨rfl, hw⟩; obtain rfl := hw.symm))
            | ((go_at_call 55; (with_reducible refine (HQ.out _ hR2).mono ?_); rintro e w2 ⟨v2, u, rfl, ho2, hg2, hR3, hl3, hsk9⟩); have hot := ownGrow (ownGrow HO.out hgs hbw) hg2 hbw; have hs2 := hg2.size)
            | ((go_at_call 41; (with_reducible refine (join_calls t _ 7 _ _ w2 hot.rd ho2.rd (by omega) (by omega)).mono ?_); rintro e w3 ⟨v3', rfl, hoj, hxj⟩)))
          have hx : RdR w3 b k s p p := hR3.ext hxj
          have hoj' := ownGrow (b := b) (hoj.rebase (base' := w.heap.size) (fun k hk => by have := hoj.lo k hk; have := hgw.size; have := hgs.size; have := hg2.size; skip; omega)) (grown_refl _ _) hbw
          go_roundw
          case rel => exact ⟨trivial, .inr ⟨p, _, Lib.hid rfl, hsk9, hx, hoj', by simp at hlen hl3 ⊢; omega, grown_trans (grown_trans (grown_trans hgw hgs) hg2) (hxj.grownBy _)⟩⟩
          case measure =>
            rw [mrr_bad s.size hx, HMS.out]
            omega
      · have HE : Hid (r = .ok (skipB (bt s) s.size i, t)) := by
          refine Lib.hid (HU.out.symm.trans ?_)
          conv => lhs; unfold conL
          rw [← hch, if_neg hj]
        have hJF := Lib.hid (fun (W : World) (h : W.cell? ⟨b, 0, none⟩ = some (.int .i64 k)) => by have := rbegins_calls k ch hchr b W h; rw [show begs k ch = false by simpa using hj] at this; exact this)
        clear hj
        clear HU hch
        obtain rfl := HE.out
        go_wp2_with (first
          | ((go_at_call 24; (with_reducible refine (hNX.out).mono ?_); rintro e w1 ⟨rfl, hR1, hg1⟩); have c0 := hR1.c0)
          | ((go_at_call 56; (with_reducible refine (hJF.out _ (by assumption)).mono ?_); rintro e w' ⟨rfl, hw⟩; obtain rfl := hw.symm)))
        go_ret
        exact ⟨_, t, rfl, ownGrow HO.out hg1 hbw, grown_trans hgw hg1, rfl, hR1⟩
    · have h3 := hRp.c3
      have hpz : decide ((p : Int) < 0) = false := by simp
      obtain rfl := HL.out
      have HO := Lib.hid ho
      clear ho
      go_wp2_with fail
      go_ret
      exact ⟨_, t', rfl, HO.out, hgw, hRp, hlen, hskp⟩
end Go.Proofs.Ytaijjnndnoicpaa
