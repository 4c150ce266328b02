/- The walk of syntax.Print: it answers the tree's text. Conditions: none beyond what a slice reads as. -/
import Derived.Test.YtaijjnndnoicpaaPrintM
import Derived.Test.YtaijjnndnoicpaaPrintB
import Derived.Test.YtaijjnndnoicpaaTreeE
import Derived.LoopTactic
import Derived.Deep.DeepMust
namespace Go.Proofs.Ytaijjnndnoicpaa
open Go.RowKit Go.Eg

def tyPc : Ty (ByteArray × Nat) := .flat 2 (fun p => [.string p.1, .int .i64 p.2]) (fun _ => rfl) (by simp [Value.oneCell'])
theorem elPc : Elem Try.prog 57 59 2 24 := Elem.mk (z := .agg #[.string ⟨#[]⟩, .int .i64 0]) Try.underlying57 (by kernel_rfl) rfl (by decide)
theorem rd_pc {w : World} {ps : List (ByteArray × Nat)} {A : Option Addr} {n c : Nat} (h : Rd tyPc w ps (.slice A n c)) {i : Nat} {p : ByteArray × Nat} (hi : ps[i]? = some p) :
    ∃ b off, A = some ⟨b, off, none⟩ ∧ b < w.heap.size ∧ w.cell? ⟨b, off + i * 2, none⟩ = some (.string p.1) ∧ w.cell? ⟨b, off + i * 2 + 1, none⟩ = some (.int .i64 p.2) := by
  obtain ⟨b, off, cs, e, hb, rfl, ha⟩ := h.at hi
  exact ⟨b, off, e, hb, ha 0 _ rfl, ha 1 _ rfl⟩
theorem store_pc {base : Nat} {w : World} {ps : List (ByteArray × Nat)} {g n c : Nat} (h : Own tyPc 59 base No w ps (.slice (some ⟨g, 0, none⟩) n c)) {i : Nat} {p : ByteArray × Nat} (hi : ps[i]? = some p) (u : ByteArray) (b : Nat) :
    Own tyPc 59 base No ((w.setCell ⟨g, i * 2, none⟩ (.string u)).setCell ⟨g, i * 2 + 1, none⟩ (.int .i64 b)) (ps.set i (u, b)) (.slice (some ⟨g, 0, none⟩) n c) := by
  have h1 := (h.store hi (j := 0) (by decide) (.string u) (u, p.2) (fun cs hr => by cases hr; rfl)).1
  have hi2 : (ps.set i (u, p.2))[i]? = some (u, p.2) := by rw [List.getElem?_set, if_pos rfl, if_pos (List.getElem?_eq_some_iff.1 hi).1]
  have h2 := (h1.store hi2 (j := 1) (by decide) (.int .i64 b) (u, b) (fun cs hr => by cases hr; rfl)).1
  rw [List.set_set] at h2
  exact h2

theorem one_at {α : Type} {t : Ty α} {w : World} {e : TypeId} {n : Nat} (hn : n = w.heap.size) (x : α) (cs : Array Value) (h : ∀ B w, t.rel B w x cs.toList) : SlP t Any (w.alloc (.cells cs e)) [x] (.slice (some ⟨n, 0, none⟩) 1 1) := by
  subst hn; exact SlP.one x cs h
set_option maxHeartbeats 8000000 in
set_option maxRecDepth 100000 in
theorem Print_calls (k : Int) (t : List Nd) (v : Value) (w : World) (hr : Rd tyNd w t v) :
    Calls Try.prog 16 #[.int .i64 k, v] w fun e w' => e = .returned (.tuple #[.string (txt (printF k t).2), .int .i64 (printF k t).1]) ∧ Ext w w' := by
  obtain ⟨A, c, rfl, hlc, hcm⟩ := hr.shape
  unfold maxLen at hcm
  by_cases hk : chkF k t ≠ 0
  · have hk' : (chkF k t != 0) = true := by simp [hk]
    have HE : Hid (printF k t = (chkF k t, [])) := if_pos hk
    have HC := Lib.hid (Check_calls k t _ w hr)
    generalize chkF k t = e at *
    rw [HE.out]
    go_enter Try.func16, Try.ntmps16
    go_wp2_with ((go_at_call 27; (with_reducible refine (HC.out).mono ?_); rintro e w1 ⟨rfl, h1⟩))
    go_ret2
    exact ⟨rfl, h1⟩
  have hk : chkF k t = 0 := by simpa using hk
  have hcc := hk
  unfold chkF at hcc
  split at hcc
  · omega
  split at hcc
  · contradiction
  rename_i herr
  obtain ⟨hlen, hok⟩ := errW_ok (by simpa using herr : errW t = 0)
  clear hcc herr
  have HC := Lib.hid (Check_calls k t _ w hr)
  rw [hk] at HC
  have HE : Hid (printF k t = if 1000 < (tr t).pr.length then (40, []) else (0, (tr t).pr)) := if_neg (by simp [hk])
  have HO := Lib.hid hok
  clear hk hok
  go_enter Try.func16, Try.ntmps16
  go_wp2_with ((go_at_call 27; (with_reducible refine (HC.out).mono ?_); rintro e w1 ⟨rfl, h1⟩))
  go_loopw [7, 19] (fun v7 v19 wr => ∃ (i : Nat) (S : List T), v19 = .int .i64 i ∧ i ≤ t.length ∧ Eg.St t i S ∧ Own tyPc 59 w.heap.size No wr (pcs S) v7 ∧ Ext w wr) (fun _ v19 _ => t.length - (intOf v19).toNat)
  case atStart => exact ⟨0, [], rfl, by omega, Eg.St.start HO.out, Own.nil _ _ _ _ _, h1⟩
  case round =>
    clear HC HO
    obtain ⟨i, S, rfl, hi, hS, ho, he⟩ := hrel
    by_cases hlt : i < t.length
    · obtain ⟨b, off, rfl, hb, hc0, hc1⟩ := rd_node (hr.ext he) hlt
      obtain ⟨hg, hle, hp, hS'⟩ := hS.next hlt
      have hsm := Eg.St.small hS hlen
      have hsl := hS.len
      have hgk := good_kind hg
      have hgl := good_letter hg
      clear hr hle hS
      generalize push (nth t i) S = S2 at *
      generalize nth t i = n at *
      obtain ⟨kd, sg⟩ := n
      dsimp only at *
      cases hp with
      | leaf S h =>
        have h : ar kd = 0 := h
        have h14 : kd = 1 ∨ kd = 2 ∨ kd = 4 ∨ kd = 3 := by
          unfold ar at h
          split at h
          · omega
          · split at h
            · omega
            · split at h <;> omega
        obtain ⟨A7, c7, rfl, h71, h72⟩ := ho.shape
        rw [pcs_len] at h71 ho
        have hq := pcs_len S
        have hwb := (Ext.le he)
        have HQ := Lib.hid ho
        rw [hq]
        clear hq
        rcases h14 with rfl | rfl | rfl | rfl
        · go_wp2_with (first | ((with_reducible refine gate_bi .append #[.tmp 30, .tmp 32] ?_); go_must (refine wp_append (t := tyPc) 59 w.heap.size 24 elPc No _ (pcs S) rfl ((HQ.out.ext ((Ext.refl _).alloc _)).ext ((Ext.refl _).alloc _)) (.slice (some ⟨wr.heap.size + 1, 0, none⟩) 1 1) [((⟨#[48]⟩ : ByteArray), 6)] rfl Any (one_at (by simp) _ #[.string ⟨#[48]⟩, .int .i64 6] (fun _ _ => rfl)) (fun _ _ h => h) (by simp [pcs_len]; omega) (by decide) (by simp; omega) ?_); intro v6 w6 ho6 hg6 _; have hx6 := Ext.grown (by (repeat (first | assumption | exact Ext.refl _ | apply Ext.alloc | apply Ext.drew | apply Ext.drewN | refine Ext.trans ?_ (by assumption))) : Ext w _) hg6 ho.lo))
          go_roundw
          case rel => exact ⟨i + 1, _, by go_num, by omega, hS', by rw [pcs_push]; exact ho6, hx6⟩
          case measure => simp [intOf]; omega
        · go_wp2_with (first | ((with_reducible refine gate_bi .append #[.tmp 36, .tmp 38] ?_); refine wp_append (t := tyPc) 59 w.heap.size 24 elPc No _ (pcs S) rfl ((HQ.out.ext ((Ext.refl _).alloc _)).ext ((Ext.refl _).alloc _)) (.slice (some ⟨wr.heap.size + 1, 0, none⟩) 1 1) [((⟨#[49]⟩ : ByteArray), 6)] rfl Any (one_at (by simp) _ #[.string ⟨#[49]⟩, .int .i64 6] (fun _ _ => rfl)) (fun _ _ h => h) (by simp [pcs_len]; omega) (by decide) (by simp; omega) ?_; intro v6 w6 ho6 hg6 _; have hx6 := Ext.grown (by (repeat (first | assumption | exact Ext.refl _ | apply Ext.alloc | apply Ext.drew | apply Ext.drewN | refine Ext.trans ?_ (by assumption))) : Ext w _) hg6 ho.lo))
          go_roundw
          case rel => exact ⟨i + 1, _, by go_num, by omega, hS', by rw [pcs_push]; exact ho6, hx6⟩
          case measure => simp [intOf]; omega
        · go_wp2_with (first | ((with_reducible refine gate_bi .append #[.tmp 42, .tmp 44] ?_); refine wp_append (t := tyPc) 59 w.heap.size 24 elPc No _ (pcs S) rfl ((HQ.out.ext ((Ext.refl _).alloc _)).ext ((Ext.refl _).alloc _)) (.slice (some ⟨wr.heap.size + 1, 0, none⟩) 1 1) [((⟨#[46]⟩ : ByteArray), 6)] rfl Any (one_at (by simp) _ #[.string ⟨#[46]⟩, .int .i64 6] (fun _ _ => rfl)) (fun _ _ h => h) (by simp [pcs_len]; omega) (by decide) (by simp; omega) ?_; intro v6 w6 ho6 hg6 _; have hx6 := Ext.grown (by (repeat (first | assumption | exact Ext.refl _ | apply Ext.alloc | apply Ext.drew | apply Ext.drewN | refine Ext.trans ?_ (by assumption))) : Ext w _) hg6 ho.lo))
          go_roundw
          case rel => exact ⟨i + 1, _, by go_num, by omega, hS', by rw [pcs_push]; exact ho6, hx6⟩
          case measure => simp [intOf]; omega
        · have hsg := hgl rfl
          have hen : Utf8.encode sg = txt [sg] := by
            obtain ⟨m, rfl⟩ := Int.eq_ofNat_of_zero_le (show (0 : Int) ≤ sg by omega)
            have : m = 97 ∨ m = 98 ∨ m = 99 ∨ m = 100 ∨ m = 101 ∨ m = 102 ∨ m = 103 ∨ m = 104 := by omega
            rcases this with rfl | rfl | rfl | rfl | rfl | rfl | rfl | rfl <;> rfl
          have hw32 : IntKind.i32.wrap sg = sg := IntWalk.i32_in _ (by omega)
          go_wp2_with (first | ((with_reducible refine gate_bi .append #[.tmp 48, .tmp 54] ?_); refine wp_append (t := tyPc) 59 w.heap.size 24 elPc No _ (pcs S) rfl ((HQ.out.ext ((Ext.refl _).alloc _)).ext ((Ext.refl _).alloc _)) (.slice (some ⟨wr.heap.size + 1, 0, none⟩) 1 1) [(txt [sg], 6)] rfl Any (one_at (by simp) _ #[.string (txt [sg]), .int .i64 6] (fun _ _ => rfl)) (fun _ _ h => h) (by simp [pcs_len]; omega) (by decide) (by simp; omega) ?_; intro v6 w6 ho6 hg6 _; have hx6 := Ext.grown (by (repeat (first | assumption | exact Ext.refl _ | apply Ext.alloc | apply Ext.drew | apply Ext.drewN | refine Ext.trans ?_ (by assumption))) : Ext w _) hg6 ho.lo))
          go_roundw
          case rel => exact ⟨i + 1, _, by go_num, by omega, hS', by rw [pcs_push]; exact ho6, hx6⟩
          case measure => simp [intOf]; omega
      | un a R h =>
        have h : ar kd = 1 := h
        have h89 : kd = 8 ∨ kd = 9 := by
          unfold ar at h
          split at h
          · omega
          · split at h
            · assumption
            · split at h <;> omega
        have hsa := hsm a (by simp)
        have hba := bd_le a
        have hin := pcs_top a R
        have hm : R.length + 1 ≤ 4000 := by simp at hsl; omega
        obtain ⟨A7, c7, rfl, h71, h72⟩ := ho.shape
        rw [pcs_len, List.length_cons] at h71 ho
        obtain ⟨g, rfl, hgb, hgs⟩ : ∃ g, A7 = some ⟨g, 0, none⟩ ∧ w.heap.size ≤ g ∧ g < wr.heap.size := by
          rcases ho.zero with ⟨_, h0, _⟩ | ⟨g, h1, h2, h3, _⟩
          · omega
          · exact ⟨g, h1, h2, h3⟩
        obtain ⟨b9, o9, e9, hb9, hp0, hp1⟩ := rd_pc ho.rd hin
        cases e9
        have hf0 := ho.free (R.length * 2)
        have hf1 := ho.free (R.length * 2 + 1)
        rw [Nat.zero_add] at hp0 hp1
        have hlen7 : (pcs (a :: R)).length = R.length + 1 := by rw [pcs_len]; rfl
        rcases h89 with rfl | rfl
        · have hAT : Hid (∀ W, Calls Try.prog 28 #[.agg #[.string (txt a.pr), .int .i64 (a.bd : Int)], .int .i64 5] W fun e w' => e = .returned (.string (txt (wrapP a.bd a.pr 5))) ∧ Ext W w') := Lib.hid (fun W => by have := at_calls (txt a.pr) a.bd 5 hba (by decide) (by rw [txt_size]; omega) W; rw [txt_wrap] at this; exact this)
          have hwl := wrap_len a.bd a.pr 5
          have hws : (txt (wrapP a.bd a.pr 5)).size ≤ 20002 := by rw [txt_size]; split at hwl <;> omega
          have hX : Hid (pcs (T.un ⟨8, sg⟩ a :: R) = (pcs (a :: R)).set R.length ((txt (wrapP a.bd a.pr 5) ++ ⟨#[42]⟩), 5)) := by
            refine Lib.hid ((pcs_set1 a (.un ⟨8, sg⟩ a) R).symm.trans (congrArg (List.set _ _) (Prod.ext ?_ rfl)))
            show txt (T.un ⟨8, sg⟩ a).pr = _
            rw [T.pr_un, if_pos rfl]
            exact txt_append _ _
          have q0 : (⟨#[42]⟩ : ByteArray).size = 1 := rfl
          have q1 : (txt (wrapP a.bd a.pr 5)).size + (⟨#[42]⟩ : ByteArray).size ≤ 9223372036854775807 := by omega
          clear hwl
          generalize txt (wrapP a.bd a.pr 5) = u at *
          go_wp2_with (first | ((go_at_call 28; (with_reducible refine (hAT.out _).mono ?_); rintro e w2 ⟨rfl, h2⟩); have := (h2).cells; have := (h2).frozens; have : g < w2.heap.size := Nat.lt_of_lt_of_le (by first | assumption | (simp; done) | (simp; omega)) (h2).le))
          have ho2 := store_pc ((ho.ext ((Ext.refl wr).alloc _)).ext h2) hin (u ++ ⟨#[42]⟩) 5
          have hx2 : Ext w w2 := by (repeat (first | assumption | exact Ext.refl _ | apply Ext.alloc | apply Ext.drew | apply Ext.drewN | refine Ext.trans ?_ (by assumption)))
          go_roundw
          case rel => exact ⟨i + 1, _, by go_num, by omega, hS', by rw [hX.out]; exact ho2, (hx2.set hgb _).set hgb _⟩
          case measure => simp [intOf]; omega
        · have hAT : Hid (∀ W, Calls Try.prog 28 #[.agg #[.string (txt a.pr), .int .i64 (a.bd : Int)], .int .i64 4] W fun e w' => e = .returned (.string (txt (wrapP a.bd a.pr 4))) ∧ Ext W w') := Lib.hid (fun W => by have := at_calls (txt a.pr) a.bd 4 hba (by decide) (by rw [txt_size]; omega) W; rw [txt_wrap] at this; exact this)
          have hwl := wrap_len a.bd a.pr 4
          have hws : (txt (wrapP a.bd a.pr 4)).size ≤ 20002 := by rw [txt_size]; split at hwl <;> omega
          have hX : Hid (pcs (T.un ⟨9, sg⟩ a :: R) = (pcs (a :: R)).set R.length ((⟨#[33]⟩ ++ txt (wrapP a.bd a.pr 4)), 4)) := by
            refine Lib.hid ((pcs_set1 a (.un ⟨9, sg⟩ a) R).symm.trans (congrArg (List.set _ _) (Prod.ext ?_ rfl)))
            show txt (T.un ⟨9, sg⟩ a).pr = _
            rw [T.pr_un, if_neg (show ¬ ((9 : Int) = 8) by decide)]
            exact txt_append [33] _
          have q0 : (⟨#[33]⟩ : ByteArray).size = 1 := rfl
          have q1 : (⟨#[33]⟩ : ByteArray).size + (txt (wrapP a.bd a.pr 4)).size ≤ 9223372036854775807 := by omega
          clear hwl
          generalize txt (wrapP a.bd a.pr 4) = u at *
          go_wp2_with (first | ((go_at_call 28; (with_reducible refine (hAT.out _).mono ?_); rintro e w2 ⟨rfl, h2⟩); have := (h2).cells; have := (h2).frozens; have : g < w2.heap.size := Nat.lt_of_lt_of_le (by first | assumption | (simp; done) | (simp; omega)) (h2).le))
          have ho2 := store_pc ((ho.ext ((Ext.refl wr).alloc _)).ext h2) hin (⟨#[33]⟩ ++ u) 4
          have hx2 : Ext w w2 := by (repeat (first | assumption | exact Ext.refl _ | apply Ext.alloc | apply Ext.drew | apply Ext.drewN | refine Ext.trans ?_ (by assumption)))
          go_roundw
          case rel => exact ⟨i + 1, _, by go_num, by omega, hS', by rw [hX.out]; exact ho2, (hx2.set hgb _).set hgb _⟩
          case measure => simp [intOf]; omega
      | bin a b R h =>
        have h : ar kd = 2 := h
        have h57 : kd = 5 ∨ kd = 6 ∨ kd = 7 := by
          unfold ar at h
          split at h
          · omega
          · split at h
            · omega
            · split at h <;> omega
        have hsa := hsm a (by simp)
        have hsb := hsm b (by simp)
        have hba := bd_le a
        have hbb := bd_le b
        have hin1 := pcs_under b a R
        have hin2 := pcs_top b (a :: R)
        have hm : R.length + 2 ≤ 4000 := by simp at hsl; omega
        obtain ⟨A7, c7, rfl, h71, h72⟩ := ho.shape
        rw [List.length_cons] at hin2
        rw [pcs_len, List.length_cons, List.length_cons] at h71 ho
        obtain ⟨g, rfl, hgb, hgs⟩ : ∃ g, A7 = some ⟨g, 0, none⟩ ∧ w.heap.size ≤ g ∧ g < wr.heap.size := by
          rcases ho.zero with ⟨_, h0, _⟩ | ⟨g, h1, h2, h3, _⟩
          · omega
          · exact ⟨g, h1, h2, h3⟩
        obtain ⟨b9, o9, e9, hb9, hp0, hp1⟩ := rd_pc ho.rd hin1
        cases e9
        obtain ⟨b9, o9, e9, hb9, hp2, hp3⟩ := rd_pc ho.rd hin2
        cases e9
        have hf0 := ho.free (R.length * 2)
        have hf1 := ho.free (R.length * 2 + 1)
        rw [Nat.zero_add] at hp0 hp1 hp2 hp3
        have hlen7 : (pcs (b :: a :: R)).length = R.length + 1 + 1 := by rw [pcs_len]; rfl
        have hg1 : g < wr.heap.size + 1 := Nat.lt_succ_of_lt hgs
        have n1 : IntKind.i64.wrap ((R.length : Int) + 1 - 1) = R.length := (IntWalk.i64_in _ (by omega)).trans (by omega)
        have n2 : IntKind.i64.wrap (R.length : Int) = R.length := IntWalk.i64_in _ (by omega)
        have n3 : (0 : Int) ≤ (R.length : Int) + 1 := by omega
        have n4 : ((R.length : Int) + 1).toNat = R.length + 1 := by omega
        have n5 : (R.length : Int) < (R.length : Int) + 1 + 1 := by omega
        have n6 : (R.length : Int) + 1 < (R.length : Int) + 1 + 1 := by omega
        have n7 : R.length < R.length + 1 + 1 := by omega
        have n8 : R.length + 1 ≤ c7 := by omega
        have n9 : ¬ (c7 : Int) < (R.length : Int) + 1 := by omega
        have n10 : (R.length : Int) + 1 ≤ c7 := by omega
        rcases h57 with rfl | rfl | rfl
        · have hTW : Hid (∀ W, Calls Try.prog 29 #[.int .i64 1, .string ⟨#[124]⟩, .agg #[.string (txt a.pr), .int .i64 (a.bd : Int)], .agg #[.string (txt b.pr), .int .i64 (b.bd : Int)]] W fun e w' => e = .returned (.agg #[.string (txt (T.bin ⟨5, sg⟩ a b).pr), .int .i64 1]) ∧ Ext W w') := Lib.hid (fun W => by
            have := two_calls 1 (by decide) ⟨#[124]⟩ (txt a.pr) (txt b.pr) a.bd b.bd (by decide) (by rw [txt_size]; omega) (by rw [txt_size]; omega) hba hbb W
            rw [txt_wrap, txt_wrap] at this
            refine this.mono ?_
            rintro e w' ⟨rfl, hx⟩
            refine ⟨?_, hx⟩
            have : txt (T.bin ⟨5, sg⟩ a b).pr = txt (wrapP a.bd a.pr 1) ++ ⟨#[124]⟩ ++ txt (wrapP b.bd b.pr (1 + 1)) := by
              rw [T.pr_bin, txt_append, txt_append]
              rfl
            rw [this]
            rfl)
          have hX : Hid (pcs (T.bin ⟨5, sg⟩ a b :: R) = ((pcs (b :: a :: R)).set R.length (txt (T.bin ⟨5, sg⟩ a b).pr, 1)).take (R.length + 1)) := Lib.hid (pcs_set2 b a (.bin ⟨5, sg⟩ a b) R).symm
          generalize txt (T.bin ⟨5, sg⟩ a b).pr = u at *
          go_wp2_with fail
          have HO := Lib.hid ho
          have H1 := Lib.hid hin1
          have H2 := Lib.hid hS'
          have H3 := Lib.hid he
          have H4 := Lib.hid hlen7
          have H5 := Lib.hid hgb
          have H6 := Lib.hid hi
          have H7 := Lib.hid hlt
          have H8 := Lib.hid hlen
          clear ho hin1 hin2 hS' he hlen7 hgb hsm hsl hgk hgl hsa hsb hba hbb h71 h72 hg hi hlen hcm hlc hb hc0 hc1 hlt h hm
          go_region_with ((go_at_call 29; (with_reducible refine (hTW.out _).mono ?_); rintro e w2 ⟨rfl, h2⟩); (try replace h2 := Ext.undrew h2); have := (h2).cells; have := (h2).frozens; have : g < w2.heap.size := Nat.lt_of_lt_of_le (by first | assumption | (simp; done) | (simp; omega)) (h2).le)
          all_goals
            have ho := HO.out
            have hin1 := H1.out
            have hS' := H2.out
            have he := H3.out
            have hlen7 := H4.out
            have hgb := H5.out
            have hi := H6.out
            have hlt := H7.out
            have hlen := H8.out
            have ho2 := (store_pc ((ho.ext ((Ext.refl wr).alloc _)).ext h2) hin1 u 1).take rfl (R.length + 1) (by rw [List.length_set, hlen7]; omega)
            have hx2 : Ext w w2 := by (repeat (first | assumption | exact Ext.refl _ | apply Ext.alloc | apply Ext.drew | apply Ext.drewN | refine Ext.trans ?_ (by assumption)))
            go_wp2_with fail
            go_roundw
            case rel => exact ⟨i + 1, _, by go_num, by omega, hS', by rw [hX.out]; exact ho2, (hx2.set hgb _).set hgb _⟩
            case measure => simp [intOf]; omega
        · have hTW : Hid (∀ W, Calls Try.prog 29 #[.int .i64 2, .string ⟨#[38]⟩, .agg #[.string (txt a.pr), .int .i64 (a.bd : Int)], .agg #[.string (txt b.pr), .int .i64 (b.bd : Int)]] W fun e w' => e = .returned (.agg #[.string (txt (T.bin ⟨6, sg⟩ a b).pr), .int .i64 2]) ∧ Ext W w') := Lib.hid (fun W => by
            have := two_calls 2 (by decide) ⟨#[38]⟩ (txt a.pr) (txt b.pr) a.bd b.bd (by decide) (by rw [txt_size]; omega) (by rw [txt_size]; omega) hba hbb W
            rw [txt_wrap, txt_wrap] at this
            refine this.mono ?_
            rintro e w' ⟨rfl, hx⟩
            refine ⟨?_, hx⟩
            have : txt (T.bin ⟨6, sg⟩ a b).pr = txt (wrapP a.bd a.pr 2) ++ ⟨#[38]⟩ ++ txt (wrapP b.bd b.pr (2 + 1)) := by
              rw [T.pr_bin, txt_append, txt_append]
              rfl
            rw [this]
            rfl)
          have hX : Hid (pcs (T.bin ⟨6, sg⟩ a b :: R) = ((pcs (b :: a :: R)).set R.length (txt (T.bin ⟨6, sg⟩ a b).pr, 2)).take (R.length + 1)) := Lib.hid (pcs_set2 b a (.bin ⟨6, sg⟩ a b) R).symm
          generalize txt (T.bin ⟨6, sg⟩ a b).pr = u at *
          go_wp2_with fail
          have HO := Lib.hid ho
          have H1 := Lib.hid hin1
          have H2 := Lib.hid hS'
          have H3 := Lib.hid he
          have H4 := Lib.hid hlen7
          have H5 := Lib.hid hgb
          have H6 := Lib.hid hi
          have H7 := Lib.hid hlt
          have H8 := Lib.hid hlen
          clear ho hin1 hin2 hS' he hlen7 hgb hsm hsl hgk hgl hsa hsb hba hbb h71 h72 hg hi hlen hcm hlc hb hc0 hc1 hlt h hm
          go_region_with ((go_at_call 29; (with_reducible refine (hTW.out _).mono ?_); rintro e w2 ⟨rfl, h2⟩); (try replace h2 := Ext.undrew h2); have := (h2).cells; have := (h2).frozens; have : g < w2.heap.size := Nat.lt_of_lt_of_le (by first | assumption | (simp; done) | (simp; omega)) (h2).le)
          all_goals
            have ho := HO.out
            have hin1 := H1.out
            have hS' := H2.out
            have he := H3.out
            have hlen7 := H4.out
            have hgb := H5.out
            have hi := H6.out
            have hlt := H7.out
            have hlen := H8.out
            have ho2 := (store_pc ((ho.ext ((Ext.refl wr).alloc _)).ext h2) hin1 u 2).take rfl (R.length + 1) (by rw [List.length_set, hlen7]; omega)
            have hx2 : Ext w w2 := by (repeat (first | assumption | exact Ext.refl _ | apply Ext.alloc | apply Ext.drew | apply Ext.drewN | refine Ext.trans ?_ (by assumption)))
            go_wp2_with fail
            go_roundw
            case rel => exact ⟨i + 1, _, by go_num, by omega, hS', by rw [hX.out]; exact ho2, (hx2.set hgb _).set hgb _⟩
            case measure => simp [intOf]; omega
        · have hTW : Hid (∀ W, Calls Try.prog 29 #[.int .i64 3, .string ⟨#[]⟩, .agg #[.string (txt a.pr), .int .i64 (a.bd : Int)], .agg #[.string (txt b.pr), .int .i64 (b.bd : Int)]] W fun e w' => e = .returned (.agg #[.string (txt (T.bin ⟨7, sg⟩ a b).pr), .int .i64 3]) ∧ Ext W w') := Lib.hid (fun W => by
            have := two_calls 3 (by decide) ⟨#[]⟩ (txt a.pr) (txt b.pr) a.bd b.bd (by decide) (by rw [txt_size]; omega) (by rw [txt_size]; omega) hba hbb W
            rw [txt_wrap, txt_wrap] at this
            refine this.mono ?_
            rintro e w' ⟨rfl, hx⟩
            refine ⟨?_, hx⟩
            have : txt (T.bin ⟨7, sg⟩ a b).pr = txt (wrapP a.bd a.pr 3) ++ ⟨#[]⟩ ++ txt (wrapP b.bd b.pr (3 + 1)) := by
              rw [T.pr_bin, txt_append, txt_append]
              rfl
            rw [this]
            rfl)
          have hX : Hid (pcs (T.bin ⟨7, sg⟩ a b :: R) = ((pcs (b :: a :: R)).set R.length (txt (T.bin ⟨7, sg⟩ a b).pr, 3)).take (R.length + 1)) := Lib.hid (pcs_set2 b a (.bin ⟨7, sg⟩ a b) R).symm
          generalize txt (T.bin ⟨7, sg⟩ a b).pr = u at *
          go_wp2_with fail
          have HO := Lib.hid ho
          have H1 := Lib.hid hin1
          have H2 := Lib.hid hS'
          have H3 := Lib.hid he
          have H4 := Lib.hid hlen7
          have H5 := Lib.hid hgb
          have H6 := Lib.hid hi
          have H7 := Lib.hid hlt
          have H8 := Lib.hid hlen
          clear ho hin1 hin2 hS' he hlen7 hgb hsm hsl hgk hgl hsa hsb hba hbb h71 h72 hg hi hlen hcm hlc hb hc0 hc1 hlt h hm
          go_region_with ((go_at_call 29; (with_reducible refine (hTW.out _).mono ?_); rintro e w2 ⟨rfl, h2⟩); (try replace h2 := Ext.undrew h2); have := (h2).cells; have := (h2).frozens; have : g < w2.heap.size := Nat.lt_of_lt_of_le (by first | assumption | (simp; done) | (simp; omega)) (h2).le)
          all_goals
            have ho := HO.out
            have hin1 := H1.out
            have hS' := H2.out
            have he := H3.out
            have hlen7 := H4.out
            have hgb := H5.out
            have hi := H6.out
            have hlt := H7.out
            have hlen := H8.out
            have ho2 := (store_pc ((ho.ext ((Ext.refl wr).alloc _)).ext h2) hin1 u 3).take rfl (R.length + 1) (by rw [List.length_set, hlen7]; omega)
            have hx2 : Ext w w2 := by (repeat (first | assumption | exact Ext.refl _ | apply Ext.alloc | apply Ext.drew | apply Ext.drewN | refine Ext.trans ?_ (by assumption)))
            go_wp2_with fail
            go_roundw
            case rel => exact ⟨i + 1, _, by go_num, by omega, hS', by rw [hX.out]; exact ho2, (hx2.set hgb _).set hgb _⟩
            case measure => simp [intOf]; omega
    · have hi' : i = t.length := by omega
      subst hi'
      have hsm := Eg.St.small hS hlen
      obtain ⟨y, rfl, hyw, hyf⟩ := hS.done
      have htr : tr t = y := by rw [← hyf]; exact tr_flat hyw
      have hyl := hsm y (by simp)
      have hin := pcs_top y []
      obtain ⟨A7, c7, rfl, h71, h72⟩ := ho.shape
      rw [pcs_len, List.length_cons, List.length_nil] at h71 ho
      obtain ⟨g, rfl, hgb, hgs⟩ : ∃ g, A7 = some ⟨g, 0, none⟩ ∧ w.heap.size ≤ g ∧ g < wr.heap.size := by
        rcases ho.zero with ⟨_, h0, _⟩ | ⟨g, h1, h2, h3, _⟩
        · omega
        · exact ⟨g, h1, h2, h3⟩
      obtain ⟨b9, o9, e9, hb9, hp0, hp1⟩ := rd_pc ho.rd hin
      cases e9
      simp only [List.length_nil, Nat.zero_mul, Nat.add_zero] at hp0
      have hlen7 : (pcs [y]).length = 0 + 1 := by rw [pcs_len]; rfl
      have hts := txt_size y.pr
      have hz := clone_calls (txt y.pr)
      rw [htr] at HE
      clear hS hyf hr htr hi hlt ho hin hsm hp1
      rw [hlen7]
      by_cases hbig : 1000 < y.pr.length
      · have HE' : Hid (printF k t = (40, [])) := Lib.hid (HE.out.trans (if_pos hbig))
        have hd : decide ((1000 : Int) < ((txt y.pr).size : Int)) = true := by rw [hts]; simp; omega
        clear HE hz
        go_wp2_with fail
        go_ret2
        rw [HE'.out]
        exact ⟨rfl, he⟩
      · have HE' : Hid (printF k t = (0, y.pr)) := Lib.hid (HE.out.trans (if_neg hbig))
        have hd : decide ((1000 : Int) < ((txt y.pr).size : Int)) = false := by rw [hts]; simp; omega
        have hz' := Lib.hid (fun W => hz W (by omega))
        clear HE hz
        go_wp2_with ((go_at_call 30; (with_reducible refine (hz'.out _).mono ?_); rintro e w2 ⟨rfl, h2⟩))
        go_ret2
        rw [HE'.out]
        exact ⟨rfl, he.trans h2⟩
end Go.Proofs.Ytaijjnndnoicpaa
