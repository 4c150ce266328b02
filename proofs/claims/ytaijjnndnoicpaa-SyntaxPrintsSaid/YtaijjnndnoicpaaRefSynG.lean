/- The walk of the reference's Print: it answers the tree's text. Conditions: none beyond what a slice reads as. -/
import Derived.Test.YtaijjnndnoicpaaRefSynF
import Derived.Test.YtaijjnndnoicpaaRefC
import Derived.Deep.RegionHeld3
import Derived.Laws.BytesString
import Derived.Deep.DeepMust
namespace Go.Proofs.Ytaijjnndnoicpaa
open Go.RowKit Go.Eg

def tyPr : Ty (ByteArray × Int) := .flat 2 (fun p => [.string p.1, .int .i64 p.2]) (fun _ => rfl) (by simp [Value.oneCell'])
theorem elPr : Elem Try.prog 64 66 2 24 := Elem.mk (z := .agg #[.string ⟨#[]⟩, .int .i64 0]) Try.underlying64 (by kernel_rfl) rfl (by decide)
theorem rd_pr {w : World} {ps : List (ByteArray × Int)} {A : Option Addr} {n c : Nat} (h : Rd tyPr w ps (.slice A n c)) {i : Nat} {p : ByteArray × Int} (hi : ps[i]? = some p) :
    ∃ b off, A = some ⟨b, off, none⟩ ∧ b < w.heap.size ∧ w.cell? ⟨b, off + i * 2, none⟩ = some (.string p.1) ∧ w.cell? ⟨b, off + i * 2 + 1, none⟩ = some (.int .i64 p.2) := by
  obtain ⟨b, off, cs, e, hb, rfl, ha⟩ := h.at hi
  exact ⟨b, off, e, hb, ha 0 _ rfl, ha 1 _ rfl⟩
/-- What the walk knows of the piece that it makes: its two cells, in a block that was not there. -/
structure Made (w : World) (g : Nat) (t : ByteArray) (k : Int) : Prop where
  c0 : w.cell? ⟨g, 0, none⟩ = some (.string t)
  c1 : w.cell? ⟨g, 1, none⟩ = some (.int .i64 k)
  f0 : w.frozen? ⟨g, 0, none⟩ = false
theorem Made.new (w : World) (e : TypeId) (t : ByteArray) (k : Int) : Made (w.alloc (.cells #[.string t, .int .i64 k] e)) w.heap.size t k := ⟨by simp, by simp, by simp⟩
theorem Made.lt {w : World} {g : Nat} {t : ByteArray} {k : Int} (h : Made w g t k) : g < w.heap.size := World.block_lt_of_cell? w _ h.c0
theorem Made.ext {w w' : World} {g : Nat} {t : ByteArray} {k : Int} (h : Made w g t k) (he : Ext w w') : Made w' g t k :=
  ⟨(he.cell _ _ h.lt).trans h.c0, (he.cell _ _ h.lt).trans h.c1, (he.frozens _ _ h.lt).trans h.f0⟩
theorem Made.put {w : World} {g : Nat} {t : ByteArray} {k : Int} (h : Made w g t k) (u : ByteArray) : Made (w.setCell ⟨g, 0, none⟩ (.string u)) g u k :=
  ⟨World.cell?_setCell_same _ _ _ h.c0, by rw [World.cell?_setCell_other _ _ _ _ (by simp)]; exact h.c1, by rw [World.frozen?_setCell]; exact h.f0⟩

theorem one_mark {α : Type} {t : Ty α} {w : World} {e : TypeId} {n : Nat} (hn : n = w.heap.size) (x : α) (cs : Array Value) (h : ∀ B w, t.rel B w x cs.toList) : SlP t Any (w.alloc (.cells cs e)) [x] (.slice (some ⟨n, 0, none⟩) 1 1) := by
  subst hn; exact SlP.one x cs h
set_option maxHeartbeats 40000000 in
set_option maxRecDepth 100000 in
theorem rPrint_calls (k : Int) (t : List Nd) (v : Value) (w : World) (hr : Rd tyNd w t v) :
    Calls Try.prog 17 #[.int .i64 k, v] w fun e w' => e = .returned (.tuple #[.string (txt (printF k t).2), .int .i64 (printF k t).1]) ∧ Ext w w' := by
  obtain ⟨A, c, rfl, hlc, hcm⟩ := hr.shape
  unfold maxLen at hcm
  by_cases hk : chkF k t ≠ 0
  · have hk' : (chkF k t != 0) = true := by simp [hk]
    have HE : Hid (printF k t = (chkF k t, [])) := if_pos hk
    have HC := Lib.hid (rCheck_calls k t _ w hr)
    generalize chkF k t = e at *
    rw [HE.out]
    go_enter Try.func17, Try.ntmps17
    go_wp2_with ((go_at_call 31; (with_reducible refine (HC.out).mono ?_); rintro e w1 ⟨rfl, h1⟩))
    go_ret2
    exact ⟨rfl, h1⟩
  have hk : chkF k t = 0 := by simpa using hk
  have hcc := hk
  unfold chkF at hcc
  split at hcc
  · omega
  split at hcc
  · contradiction
  rename_i herr
  obtain ⟨hlen, hok⟩ := errW_ok (by simpa using herr : errW t = 0)
  clear hcc herr
  have HC := Lib.hid (rCheck_calls k t _ w hr)
  rw [hk] at HC
  have HE : Hid (printF k t = if 1000 < (tr t).pr.length then (40, []) else (0, (tr t).pr)) := if_neg (by simp [hk])
  have HO := Lib.hid hok
  clear hk hok
  go_enter Try.func17, Try.ntmps17
  go_wp2_with ((go_at_call 31; (with_reducible refine (HC.out).mono ?_); rintro e w1 ⟨rfl, h1⟩))
  go_loopw [7, 8] (fun v7 v8 wr => ∃ (i : Nat) (S : List T), v8 = .int .i64 i ∧ i ≤ t.length ∧ Eg.St t i S ∧ Own tyPr 66 w.heap.size No wr (pcr S) v7 ∧ Ext w wr) (fun _ v8 _ => t.length - (intOf v8).toNat)
  case atStart => exact ⟨0, [], rfl, by omega, Eg.St.start HO.out, Own.nil _ _ _ _ _, h1⟩
  case round =>
    clear HC HO
    obtain ⟨i, S, rfl, hi, hS, ho, he⟩ := hrel
    by_cases hlt : i < t.length
    · obtain ⟨b, off, rfl, hb, hc0, hc1⟩ := rd_node (hr.ext he) hlt
      obtain ⟨hg, hle, hp, hS'⟩ := hS.next hlt
      have hsm := Eg.St.small hS hlen
      have hsl := hS.len
      have hgk := good_kind hg
      have hgl := good_letter hg
      have hwl := he.le
      have HCUT : Hid (∀ x, x ∈ push (nth t i) S → 2000 < x.pr.length → printF k t = (40, [])) := Lib.hid (fun x hx hl => HE.out.trans (if_pos (by have := piece_le hS' (by omega) hx; omega)))
      clear hr hle hS
      generalize push (nth t i) S = S2 at *
      generalize nth t i = n at *
      obtain ⟨kd, sg⟩ := n
      dsimp only at *
      cases hp with
      | leaf S h =>
        have h : ar kd = 0 := h
        have h14 : kd = 1 ∨ kd = 2 ∨ kd = 4 ∨ kd = 3 := by
          unfold ar at h
          split at h
          · omega
          · split at h
            · omega
            · split at h <;> omega
        obtain ⟨A7, c7, rfl, h71, h72⟩ := ho.shape
        rw [pcr_len] at h71 ho
        have hq := pcr_len S
        have HQ := Lib.hid ho
        rw [hq]
        clear hq
        have hw1 : w.heap.size ≤ wr.heap.size + 1 := by omega
        rcases h14 with rfl | rfl | rfl | rfl
        · have hz : decide ((2000 : Int) < ((⟨#[48]⟩ : ByteArray).size : Int)) = false := by decide
          go_wp2_with (first | ((with_reducible refine gate_bi .append #[.tmp 133, .tmp 135] ?_); refine wp_append (t := tyPr) 66 w.heap.size 24 elPr No _ (pcr S) rfl ((HQ.out.ext ((Ext.refl wr).alloc _)).ext ((Ext.refl _).alloc _)) (.slice (some ⟨wr.heap.size + 1, 0, none⟩) 1 1) [((⟨#[48]⟩ : ByteArray), ((1 : Int)))] rfl Any (one_mark (by simp) _ #[.string ⟨#[48]⟩, .int .i64 1] (fun _ _ => rfl)) (fun _ _ h => h) (by simp [pcr_len]; omega) (by decide) (by simp; omega) ?_; intro v6 w6 ho6 hg6 _; have hx6 : Ext w w6 := Ext.grown (he.trans (((Ext.refl wr).alloc _).alloc _)) hg6 HQ.out.lo))
          go_roundw
          case rel => exact ⟨i + 1, _, by go_num, by omega, hS', by rw [pcr_push]; exact ho6, hx6⟩
          case measure => simp [intOf]; omega
        · have hz : decide ((2000 : Int) < ((⟨#[49]⟩ : ByteArray).size : Int)) = false := by decide
          go_wp2_with (first | ((with_reducible refine gate_bi .append #[.tmp 133, .tmp 135] ?_); refine wp_append (t := tyPr) 66 w.heap.size 24 elPr No _ (pcr S) rfl ((HQ.out.ext ((Ext.refl wr).alloc _)).ext ((Ext.refl _).alloc _)) (.slice (some ⟨wr.heap.size + 1, 0, none⟩) 1 1) [((⟨#[49]⟩ : ByteArray), ((2 : Int)))] rfl Any (one_mark (by simp) _ #[.string ⟨#[49]⟩, .int .i64 2] (fun _ _ => rfl)) (fun _ _ h => h) (by simp [pcr_len]; omega) (by decide) (by simp; omega) ?_; intro v6 w6 ho6 hg6 _; have hx6 : Ext w w6 := Ext.grown (he.trans (((Ext.refl wr).alloc _).alloc _)) hg6 HQ.out.lo))
          go_roundw
          case rel => exact ⟨i + 1, _, by go_num, by omega, hS', by rw [pcr_push]; exact ho6, hx6⟩
          case measure => simp [intOf]; omega
        · have hz : decide ((2000 : Int) < ((⟨#[46]⟩ : ByteArray).size : Int)) = false := by decide
          go_wp2_with (first | ((with_reducible refine gate_bi .append #[.tmp 133, .tmp 135] ?_); refine wp_append (t := tyPr) 66 w.heap.size 24 elPr No _ (pcr S) rfl ((HQ.out.ext ((Ext.refl wr).alloc _)).ext ((Ext.refl _).alloc _)) (.slice (some ⟨wr.heap.size + 1, 0, none⟩) 1 1) [((⟨#[46]⟩ : ByteArray), ((4 : Int)))] rfl Any (one_mark (by simp) _ #[.string ⟨#[46]⟩, .int .i64 4] (fun _ _ => rfl)) (fun _ _ h => h) (by simp [pcr_len]; omega) (by decide) (by simp; omega) ?_; intro v6 w6 ho6 hg6 _; have hx6 : Ext w w6 := Ext.grown (he.trans (((Ext.refl wr).alloc _).alloc _)) hg6 HQ.out.lo))
          go_roundw
          case rel => exact ⟨i + 1, _, by go_num, by omega, hS', by rw [pcr_push]; exact ho6, hx6⟩
          case measure => simp [intOf]; omega
        · have hsg := hgl rfl
          have hz : decide ((2000 : Int) < ((txt [sg]).size : Int)) = false := by rw [txt_size]; simp
          have hcv : (convert 67 9 (.slice (some ⟨wr.heap.size + 1, 0, none⟩) 1 1)).run Try.prog ((wr.alloc (.cells #[.string ⟨#[]⟩, .int .i64 3] 66)).alloc (.cells #[.int .u8 sg] 5)) = .ok (.string (txt [sg])) ((wr.alloc (.cells #[.string ⟨#[]⟩, .int .i64 3] 66)).alloc (.cells #[.int .u8 sg] 5)) := by
            have hld := run_loadCells_list (P := Try.prog) (w := (wr.alloc (.cells #[.string ⟨#[]⟩, .int .i64 3] 66)).alloc (.cells #[.int .u8 sg] 5)) ⟨wr.heap.size + 1, 0, none⟩ [.int .u8 sg] (fun j v hj => by
              match j, hj with
              | 0, hj => cases hj; simp [Addr.add, World.cell?_alloc_at]
              | j + 1, hj => simp at hj)
            rw [run_convert_bytes_string _ _ _ _ _ _ _ Try.underlying67 Try.underlying5 Try.underlying9, run_bytesToString _ ⟨wr.heap.size + 1, 0, none⟩ 1 1 [sg] hld]
            rfl
          generalize hu : txt [sg] = u at *
          have HU := Lib.hid hu
          clear hu
          go_wp2_with (first | ((with_reducible refine gate_bi .append #[.tmp 133, .tmp 135] ?_); refine wp_append (t := tyPr) 66 w.heap.size 24 elPr No _ (pcr S) rfl ((HQ.out.ext (((Ext.refl wr).alloc _).alloc _)).ext ((Ext.refl _).alloc _)) (.slice (some ⟨wr.heap.size + 1 + 1, 0, none⟩) 1 1) [(u, ((3 : Int)))] rfl Any (one_mark (by simp) _ #[.string u, .int .i64 3] (fun _ _ => rfl)) (fun _ _ h => h) (by simp [pcr_len]; omega) (by decide) (by simp; omega) ?_; intro v6 w6 ho6 hg6 _; have hx6 : Ext w w6 := Ext.grown (he.trans ((((Ext.refl wr).alloc _).alloc _).alloc _)) hg6 HQ.out.lo))
          go_roundw
          case rel => exact ⟨i + 1, _, by go_num, by omega, hS', by rw [pcr_push]; rw [← HU.out] at ho6; exact ho6, hx6⟩
          case measure => simp [intOf]; omega
      | un a R h =>
        have h : ar kd = 1 := h
        have h89 : kd = 8 ∨ kd = 9 := by
          unfold ar at h
          split at h
          · omega
          · split at h
            · assumption
            · split at h <;> omega
        have hsa := hsm a (by simp)
        have hin := pcr_top a R
        have hm : R.length + 1 ≤ 4000 := by simp at hsl; omega
        obtain ⟨A7, c7, rfl, h71, h72⟩ := ho.shape
        rw [pcr_len, List.length_cons] at h71 ho
        obtain ⟨g, rfl, hgb, hgs⟩ : ∃ g, A7 = some ⟨g, 0, none⟩ ∧ w.heap.size ≤ g ∧ g < wr.heap.size := by
          rcases ho.zero with ⟨_, h0, _⟩ | ⟨g, h1, h2, h3, _⟩
          · omega
          · exact ⟨g, h1, h2, h3⟩
        obtain ⟨b9, o9, e9, hb9, hp0, hp1⟩ := rd_pr ho.rd hin
        cases e9
        rw [Nat.zero_add] at hp0 hp1
        have hlen7 : (pcr (a :: R)).length = R.length + 1 := by rw [pcr_len]; rfl
        have hpop := pcr_pop1 a R
        have hlR := pcr_len R
        have HQ := Lib.hid ho
        have hwl0 : w.heap.size ≤ wr.heap.size := hwl
        have n1 : (R.length : Int) + 1 - 1 = R.length := by omega
        have n2 : (R.length : Int) ≤ c7 := by omega
        have n3 : ¬ (c7 : Int) < R.length := by omega
        clear ho
        rcases h89 with rfl | rfl
        · have hAT : Hid (∀ W, Calls Try.prog 32 #[.agg #[.string (txt a.pr), .int .i64 a.root.k], .int .i64 4] W fun e w' => e = .returned (.string (txt (wrapP a.bd a.pr 5))) ∧ Ext W w') := Lib.hid (fun W => by have := rat_calls (txt a.pr) a.root.k 4 (by rw [txt_size]; omega) W; rw [txt_wrap] at this; exact this)
          have hwk := wrap_len a.bd a.pr 5
          have hws : (txt (wrapP a.bd a.pr 5)).size ≤ 20002 := by rw [txt_size]; split at hwk <;> omega
          have hpr : (T.un ⟨8, sg⟩ a).pr = wrapP a.bd a.pr 5 ++ [42] := if_pos rfl
          have hX : Hid (pcr (T.un ⟨8, sg⟩ a :: R) = pcr R ++ [(txt (wrapP a.bd a.pr 5) ++ ⟨#[42]⟩, (8 : Int))]) := by
            refine Lib.hid ((pcr_push _ _).trans ?_)
            rw [hpr, txt_append (wrapP a.bd a.pr 5) [42]]
            rfl
          have hsz : (txt (wrapP a.bd a.pr 5) ++ ⟨#[42]⟩).size = (T.un ⟨8, sg⟩ a).pr.length := by
            have e1 : txt (wrapP a.bd a.pr 5) ++ ⟨#[42]⟩ = txt (T.un ⟨8, sg⟩ a).pr := by rw [hpr, txt_append (wrapP a.bd a.pr 5) [42]]; rfl
            rw [e1, txt_size]
          have HCU := Lib.hid (HCUT.out (.un ⟨8, sg⟩ a) (by simp))
          have q0 : (⟨#[42]⟩ : ByteArray).size = 1 := rfl
          have q1 : (txt (wrapP a.bd a.pr 5)).size + (⟨#[42]⟩ : ByteArray).size ≤ 9223372036854775807 := by omega
          clear hwk hpr HCUT
          generalize (T.un ⟨8, sg⟩ a).pr.length = PL at *
          generalize txt (wrapP a.bd a.pr 5) = u at *
          have hsz2 : u.size + 1 = PL := by rw [← hsz, ByteArray.size_append]; omega
          by_cases hbig : 2000 < PL
          · have hzp : (2000 : Int) < (u.size : Int) + 1 := by omega
            have hz : decide ((2000 : Int) < (u.size : Int) + 1) = true := decide_eq_true hzp
            have HCV := Lib.hid (HCU.out hbig)
            clear hsz hsz2 hbig HCU
            go_wp2_with (first | ((go_at_call 32; (with_reducible refine (hAT.out _).mono ?_); rintro e w2 ⟨rfl, h2⟩); have := (h2).cells; have := (h2).frozens; have : wr.heap.size < w2.heap.size := Nat.lt_of_lt_of_le (by first | assumption | (simp; done) | (simp; omega)) (h2).le))
            go_ret2
            rw [HCV.out]
            exact ⟨rfl, (he.trans (((Ext.refl wr).alloc _).trans h2)).set hwl0 _⟩
          · have hzp : ¬ (2000 : Int) < (u.size : Int) + 1 := by omega
            have hz : decide ((2000 : Int) < (u.size : Int) + 1) = false := decide_eq_false hzp
            clear hsz hsz2 hbig HCU
            go_wp2_with (first
              | ((go_at_call 32; (with_reducible refine (hAT.out _).mono ?_); rintro e w2 ⟨rfl, h2⟩); have := (h2).cells; have := (h2).frozens; have : wr.heap.size < w2.heap.size := Nat.lt_of_lt_of_le (by first | assumption | (simp; done) | (simp; omega)) (h2).le; have EX : Ext wr (w2.setCell ⟨wr.heap.size, 0, none⟩ (.string (u ++ ⟨#[42]⟩))) := (((Ext.refl wr).alloc _).trans h2).set (Nat.le_refl _) _; have hoT := (HQ.out.ext EX).take rfl R.length (by rw [hlen7]; omega))
              | ((with_reducible refine gate_bi .append #[.tmp 133, .tmp 135] ?_); refine wp_append (t := tyPr) 66 w.heap.size 24 elPr No _ (pcr R) rfl ((by rw [← hpop]; exact hoT.ext ((Ext.refl _).alloc _))) (.slice (some ⟨w2.heap.size, 0, none⟩) 1 1) [(u ++ ⟨#[42]⟩, (8 : Int))] rfl Any (one_mark (by simp) _ #[.string (u ++ ⟨#[42]⟩), .int .i64 8] (fun _ _ => rfl)) (fun _ _ h => h) (by rw [hlR, List.length_singleton]; omega) (by decide) (by have := h2.le; simp at this ⊢; omega) ?_; intro v6 w6 ho6 hg6 _; have hx6 : Ext w w6 := Ext.grown (he.trans (EX.alloc _)) hg6 hoT.lo))
            go_roundw
            case rel => exact ⟨i + 1, _, by go_num, by omega, hS', by rw [hX.out]; exact ho6, hx6⟩
            case measure => simp [intOf]; omega
        · have hAT : Hid (∀ W, Calls Try.prog 32 #[.agg #[.string (txt a.pr), .int .i64 a.root.k], .int .i64 3] W fun e w' => e = .returned (.string (txt (wrapP a.bd a.pr 4))) ∧ Ext W w') := Lib.hid (fun W => by have := rat_calls (txt a.pr) a.root.k 3 (by rw [txt_size]; omega) W; rw [txt_wrap] at this; exact this)
          have hwk := wrap_len a.bd a.pr 4
          have hws : (txt (wrapP a.bd a.pr 4)).size ≤ 20002 := by rw [txt_size]; split at hwk <;> omega
          have hpr : (T.un ⟨9, sg⟩ a).pr = [33] ++ wrapP a.bd a.pr 4 := if_neg (show ¬ ((9 : Int) = 8) by decide)
          have hX : Hid (pcr (T.un ⟨9, sg⟩ a :: R) = pcr R ++ [(⟨#[33]⟩ ++ txt (wrapP a.bd a.pr 4), (9 : Int))]) := by
            refine Lib.hid ((pcr_push _ _).trans ?_)
            rw [hpr, txt_append [33] (wrapP a.bd a.pr 4)]
            rfl
          have hsz : (⟨#[33]⟩ ++ txt (wrapP a.bd a.pr 4)).size = (T.un ⟨9, sg⟩ a).pr.length := by
            have e1 : ⟨#[33]⟩ ++ txt (wrapP a.bd a.pr 4) = txt (T.un ⟨9, sg⟩ a).pr := by rw [hpr, txt_append [33] (wrapP a.bd a.pr 4)]; rfl
            rw [e1, txt_size]
          have HCU := Lib.hid (HCUT.out (.un ⟨9, sg⟩ a) (by simp))
          have q0 : (⟨#[33]⟩ : ByteArray).size = 1 := rfl
          have q1 : (⟨#[33]⟩ : ByteArray).size + (txt (wrapP a.bd a.pr 4)).size ≤ 9223372036854775807 := by omega
          clear hwk hpr HCUT
          generalize (T.un ⟨9, sg⟩ a).pr.length = PL at *
          generalize txt (wrapP a.bd a.pr 4) = u at *
          have hsz2 : u.size + 1 = PL := by rw [← hsz, ByteArray.size_append]; omega
          by_cases hbig : 2000 < PL
          · have hzp : (2000 : Int) < 1 + (u.size : Int) := by omega
            have hz : decide ((2000 : Int) < 1 + (u.size : Int)) = true := decide_eq_true hzp
            have HCV := Lib.hid (HCU.out hbig)
            clear hsz hsz2 hbig HCU
            go_wp2_with (first | ((go_at_call 32; (with_reducible refine (hAT.out _).mono ?_); rintro e w2 ⟨rfl, h2⟩); have := (h2).cells; have := (h2).frozens; have : wr.heap.size < w2.heap.size := Nat.lt_of_lt_of_le (by first | assumption | (simp; done) | (simp; omega)) (h2).le))
            go_ret2
            rw [HCV.out]
            exact ⟨rfl, (he.trans (((Ext.refl wr).alloc _).trans h2)).set hwl0 _⟩
          · have hzp : ¬ (2000 : Int) < 1 + (u.size : Int) := by omega
            have hz : decide ((2000 : Int) < 1 + (u.size : Int)) = false := decide_eq_false hzp
            clear hsz hsz2 hbig HCU
            go_wp2_with (first
              | ((go_at_call 32; (with_reducible refine (hAT.out _).mono ?_); rintro e w2 ⟨rfl, h2⟩); have := (h2).cells; have := (h2).frozens; have : wr.heap.size < w2.heap.size := Nat.lt_of_lt_of_le (by first | assumption | (simp; done) | (simp; omega)) (h2).le; have EX : Ext wr (w2.setCell ⟨wr.heap.size, 0, none⟩ (.string (⟨#[33]⟩ ++ u))) := (((Ext.refl wr).alloc _).trans h2).set (Nat.le_refl _) _; have hoT := (HQ.out.ext EX).take rfl R.length (by rw [hlen7]; omega))
              | ((with_reducible refine gate_bi .append #[.tmp 133, .tmp 135] ?_); refine wp_append (t := tyPr) 66 w.heap.size 24 elPr No _ (pcr R) rfl ((by rw [← hpop]; exact hoT.ext ((Ext.refl _).alloc _))) (.slice (some ⟨w2.heap.size, 0, none⟩) 1 1) [(⟨#[33]⟩ ++ u, (9 : Int))] rfl Any (one_mark (by simp) _ #[.string (⟨#[33]⟩ ++ u), .int .i64 9] (fun _ _ => rfl)) (fun _ _ h => h) (by rw [hlR, List.length_singleton]; omega) (by decide) (by have := h2.le; simp at this ⊢; omega) ?_; intro v6 w6 ho6 hg6 _; have hx6 : Ext w w6 := Ext.grown (he.trans (EX.alloc _)) hg6 hoT.lo))
            go_roundw
            case rel => exact ⟨i + 1, _, by go_num, by omega, hS', by rw [hX.out]; exact ho6, hx6⟩
            case measure => simp [intOf]; omega
      | bin a b' R h =>
        have h : ar kd = 2 := h
        have h57 : kd = 5 ∨ kd = 6 ∨ kd = 7 := by
          unfold ar at h
          split at h
          · omega
          · split at h
            · omega
            · split at h <;> omega
        have hsa := hsm a (by simp)
        have hsb := hsm b' (by simp)
        have hin1 := pcr_under b' a R
        have hin2 := pcr_top b' (a :: R)
        have hm : R.length + 2 ≤ 4000 := by simp at hsl; omega
        obtain ⟨A7, c7, rfl, h71, h72⟩ := ho.shape
        rw [List.length_cons] at hin2
        rw [pcr_len, List.length_cons, List.length_cons] at h71 ho
        obtain ⟨g, rfl, hgb, hgs⟩ : ∃ g, A7 = some ⟨g, 0, none⟩ ∧ w.heap.size ≤ g ∧ g < wr.heap.size := by
          rcases ho.zero with ⟨_, h0, _⟩ | ⟨g, h1, h2, h3, _⟩
          · omega
          · exact ⟨g, h1, h2, h3⟩
        obtain ⟨b9, o9, e9, hb9, hp0, hp1⟩ := rd_pr ho.rd hin1
        cases e9
        obtain ⟨b9, o9, e9, hb9, hp2, hp3⟩ := rd_pr ho.rd hin2
        cases e9
        rw [Nat.zero_add] at hp0 hp1 hp2 hp3
        have hlen7 : (pcr (b' :: a :: R)).length = R.length + 1 + 1 := by rw [pcr_len]; rfl
        rw [hlen7]
        have hpop := pcr_pop2 b' a R
        have hlR := pcr_len R
        have HQ := Lib.hid ho
        have hwl0 : w.heap.size ≤ wr.heap.size := hwl
        have n1 : IntKind.i64.wrap ((R.length : Int) + 1 + 1 - 2) = R.length := (IntWalk.i64_in _ (by omega)).trans (by omega)
        have n1' : (R.length : Int) + 1 + 1 - 2 = R.length := by omega
        have n2 : IntKind.i64.wrap ((R.length : Int) + 1 + 1 - 1) = (R.length : Int) + 1 := (IntWalk.i64_in _ (by omega)).trans (by omega)
        have n2' : IntKind.i64.wrap ((R.length : Int) + 1) = (R.length : Int) + 1 := IntWalk.i64_in _ (by omega)
        have n2'' : IntKind.i64.wrap (R.length : Int) = R.length := IntWalk.i64_in _ (by omega)
        have n3 : (0 : Int) ≤ (R.length : Int) + 1 := by omega
        have n4 : ((R.length : Int) + 1).toNat = R.length + 1 := by omega
        have n5 : (R.length : Int) < (R.length : Int) + 1 + 1 := by omega
        have n6 : (R.length : Int) + 1 < (R.length : Int) + 1 + 1 := by omega
        have n7 : R.length < R.length + 1 + 1 := by omega
        have n8 : R.length ≤ c7 := by omega
        have n9 : ¬ (c7 : Int) < R.length := by omega
        have n10 : (R.length : Int) ≤ c7 := by omega
        have n11 : (i : Int) < t.length := by omega
        have hgs1 : g < wr.heap.size + 1 := by omega
        have hb1 : b < wr.heap.size + 1 := by omega
        have H1 := Lib.hid hlen7
        have H2 := Lib.hid hS'
        have H3 := Lib.hid he
        have H4 := Lib.hid hpop
        have H5 := Lib.hid hlR
        have H6 := Lib.hid hi
        have H8 := Lib.hid hlen
        clear ho hin1 hin2 hS' he hlen7 hgb hsm hsl hgk hgl h71 h72 hg hi hlen hcm hlc h hpop hlR
        rcases h57 with rfl | rfl | rfl
        · have HA : Hid (∀ W, Calls Try.prog 32 #[.agg #[.string (txt a.pr), .int .i64 a.root.k], .int .i64 0] W fun e w' => e = .returned (.string (txt (wrapP a.bd a.pr 1))) ∧ Ext W w') := Lib.hid (fun W => by have := rat_calls (txt a.pr) a.root.k 0 (by rw [txt_size]; omega) W; rw [txt_wrap] at this; exact this)
          have HB : Hid (∀ W, Calls Try.prog 32 #[.agg #[.string (txt b'.pr), .int .i64 b'.root.k], .int .i64 1] W fun e w' => e = .returned (.string (txt (wrapP b'.bd b'.pr 2))) ∧ Ext W w') := Lib.hid (fun W => by have := rat_calls (txt b'.pr) b'.root.k 1 (by rw [txt_size]; omega) W; rw [txt_wrap] at this; exact this)
          have HK : Hid (∀ W, Calls Try.prog 33 #[.int .i64 5] W fun e w' => e = .returned (.int .i64 0) ∧ w' = W) := Lib.hid (fun W => rank_calls 5 W)
          have hwa := wrap_len a.bd a.pr 1
          have hwb := wrap_len b'.bd b'.pr 2
          have hsz1 : (txt (wrapP a.bd a.pr 1)).size ≤ 20002 := by rw [txt_size]; split at hwa <;> omega
          have hsz2 : (txt (wrapP b'.bd b'.pr 2)).size ≤ 20002 := by rw [txt_size]; split at hwb <;> omega
          have hpr : txt (T.bin ⟨5, sg⟩ a b').pr = txt (wrapP a.bd a.pr 1) ++ ⟨#[124]⟩ ++ txt (wrapP b'.bd b'.pr 2) := by
            rw [T.pr_bin, txt_append, txt_append]
            rfl
          have hX : Hid (pcr (T.bin ⟨5, sg⟩ a b' :: R) = pcr R ++ [(txt (wrapP a.bd a.pr 1) ++ ⟨#[124]⟩ ++ txt (wrapP b'.bd b'.pr 2), (5 : Int))]) := by
            refine Lib.hid ((pcr_push _ _).trans ?_)
            rw [hpr]
            rfl
          have q0 : (⟨#[124]⟩ : ByteArray).size = 1 := rfl
          have hPL : (txt (wrapP a.bd a.pr 1)).size + 1 + (txt (wrapP b'.bd b'.pr 2)).size = (T.bin ⟨5, sg⟩ a b').pr.length := by
            rw [← txt_size (T.bin ⟨5, sg⟩ a b').pr, hpr, ByteArray.size_append, ByteArray.size_append, q0]
          have HCU := Lib.hid (HCUT.out (.bin ⟨5, sg⟩ a b') (by simp))
          clear hwa hwb hpr HCUT
          generalize (T.bin ⟨5, sg⟩ a b').pr.length = PL at *
          generalize txt (wrapP a.bd a.pr 1) = u1 at *
          generalize txt (wrapP b'.bd b'.pr 2) = u2 at *
          have q1 : ¬ 9223372036854775807 < u1.size + (⟨#[124]⟩ : ByteArray).size := by omega
          have q2 : ¬ 9223372036854775807 < u1.size + (⟨#[124]⟩ : ByteArray).size + u2.size := by omega
          have q3 : u1.size + (⟨#[124]⟩ : ByteArray).size ≤ 9223372036854775807 := by omega
          have q4 : u1.size + (⟨#[124]⟩ : ByteArray).size + u2.size ≤ 9223372036854775807 := by omega
          have q5 : ¬ 9223372036854775807 < u1.size + 1 := by omega
          have q6 : ¬ 9223372036854775807 < u1.size + 1 + u2.size := by omega
          have q7 : u1.size + 1 ≤ 9223372036854775807 := by omega
          have q8 : u1.size + 1 + u2.size ≤ 9223372036854775807 := by omega
          have q9 : ¬ 9223372036854775807 < u1.size := by omega
          have q10 : u1.size ≤ 9223372036854775807 := by omega
          have q11 : ¬ 9223372036854775807 < u1.size + u2.size := by omega
          have q12 : u1.size + u2.size ≤ 9223372036854775807 := by omega
          have m1 : IntKind.i64.wrap 1 = 1 := by decide
          have HPL := Lib.hid hPL
          have HZ1 := Lib.hid hsz1
          have HZ2 := Lib.hid hsz2
          clear hPL hsz1 hsz2
          go_wp2_with fail
          go_region_held3 (fun w' => (∀ c o, c < wr.heap.size → w'.cell? ⟨c, o, none⟩ = wr.cell? ⟨c, o, none⟩) ∧ Ext wr w') (refine ⟨Ext.cells ?_, ?_⟩ <;> ((repeat (first | assumption | exact Ext.refl _ | apply Ext.alloc | apply Ext.drew | apply Ext.drewN | refine Ext.set ?_ (by first | exact Nat.le_refl _ | assumption | exact Nat.le_succ _ | exact Nat.le_add_right _ _ | exact Nat.le_trans (Nat.le_succ _) (Nat.le_succ _) | omega) _ | refine Ext.trans ?_ (by assumption))))) (first
            | ((go_at_call 33; (with_reducible refine (HK.out _).mono ?_); rintro e w' ⟨rfl, hw⟩; obtain rfl := hw.symm))
            | ((go_at_call 32; (with_reducible refine (HA.out _).mono ?_); rintro e w2 ⟨rfl, h2⟩); (try replace h2 := Ext.undrew h2); have := (h2).cells; have := (h2).frozens; have : wr.heap.size < w2.heap.size := Nat.lt_of_lt_of_le (by first | assumption | (simp; done) | (simp; omega)) (h2).le)
            | ((go_at_call 32; (with_reducible refine (HB.out _).mono ?_); rintro e w3 ⟨rfl, h3⟩); (try replace h3 := Ext.undrew h3); have := (h3).cells; have := (h3).frozens; have : wr.heap.size < w3.heap.size := Nat.lt_of_lt_of_le (by first | assumption | (simp; done) | (simp; omega)) (h3).le))
          all_goals
            have EX : Ext wr (w3.setCell ⟨wr.heap.size, 0, none⟩ (.string (u1 ++ ⟨#[124]⟩ ++ u2))) := by
              refine (?_ : Ext wr w3).set (Nat.le_refl _) _
              (repeat (first | assumption | exact Ext.refl _ | apply Ext.alloc | apply Ext.drew | apply Ext.drewN | refine Ext.trans ?_ (by assumption)))
            have MD := (((Made.new wr _ ⟨#[]⟩ 5).ext h2).ext h3).put (u1 ++ ⟨#[124]⟩ ++ u2)
            generalize htx : u1 ++ ⟨#[124]⟩ ++ u2 = tx at *
            have hts : tx.size = PL := by rw [← htx, ByteArray.size_append, ByteArray.size_append, q0]; exact HPL.out
            generalize w3.setCell ⟨wr.heap.size, 0, none⟩ (.string tx) = W4 at *
            have d0 := MD.c0
            have d1 := MD.c1
            have hd := MD.lt
            have hWl := EX.le
            have hoT := (HQ.out.ext EX).take rfl R.length (by rw [H1.out]; omega)
            rw [H4.out] at hoT
            have HX2 := hX
            have HT := Lib.hid hoT
            clear hoT h2 h3 htx q0 q1 q2 q3 q4 q5 q6 q7 q8 q9 q10 q11 q12 HA HB HK HZ1 HZ2 hp0 hp1 hp2 hp3
            by_cases hbig : 2000 < PL
            · have hzp : (2000 : Int) < tx.size := by omega
              have hz : decide ((2000 : Int) < tx.size) = true := decide_eq_true hzp
              have HCV := Lib.hid (HCU.out hbig)
              clear hbig HCU hts
              go_wp2_with fail
              go_ret2
              rw [HCV.out]
              exact ⟨rfl, H3.out.trans EX⟩
            · have hzp : ¬ (2000 : Int) < tx.size := by omega
              have hz : decide ((2000 : Int) < tx.size) = false := decide_eq_false hzp
              have hi := H6.out
              have hlen := H8.out
              clear hbig HCU hts
              go_wp2_with (first
                | ((with_reducible refine gate_bi .append #[.tmp 133, .tmp 135] ?_); refine wp_append (t := tyPr) 66 w.heap.size 24 elPr No _ (pcr R) rfl (HT.out.ext ((Ext.refl _).alloc _)) (.slice (some ⟨W4.heap.size, 0, none⟩) 1 1) [(tx, (5 : Int))] rfl Any (one_mark rfl _ #[.string tx, .int .i64 5] (fun _ _ => rfl)) (fun _ _ h => h) (by rw [H5.out, List.length_singleton]; omega) (by decide) (by simp; omega) ?_; intro v6 w6 ho6 hg6 _; have hx6 : Ext w w6 := Ext.grown (H3.out.trans (EX.alloc _)) hg6 HT.out.lo))
              go_roundw
              case rel => exact ⟨i + 1, _, by go_num, by omega, H2.out, by rw [HX2.out]; exact ho6, hx6⟩
              case measure => simp [intOf]; omega
        · have HA : Hid (∀ W, Calls Try.prog 32 #[.agg #[.string (txt a.pr), .int .i64 a.root.k], .int .i64 1] W fun e w' => e = .returned (.string (txt (wrapP a.bd a.pr 2))) ∧ Ext W w') := Lib.hid (fun W => by have := rat_calls (txt a.pr) a.root.k 1 (by rw [txt_size]; omega) W; rw [txt_wrap] at this; exact this)
          have HB : Hid (∀ W, Calls Try.prog 32 #[.agg #[.string (txt b'.pr), .int .i64 b'.root.k], .int .i64 2] W fun e w' => e = .returned (.string (txt (wrapP b'.bd b'.pr 3))) ∧ Ext W w') := Lib.hid (fun W => by have := rat_calls (txt b'.pr) b'.root.k 2 (by rw [txt_size]; omega) W; rw [txt_wrap] at this; exact this)
          have HK : Hid (∀ W, Calls Try.prog 33 #[.int .i64 6] W fun e w' => e = .returned (.int .i64 1) ∧ w' = W) := Lib.hid (fun W => rank_calls 6 W)
          have hwa := wrap_len a.bd a.pr 2
          have hwb := wrap_len b'.bd b'.pr 3
          have hsz1 : (txt (wrapP a.bd a.pr 2)).size ≤ 20002 := by rw [txt_size]; split at hwa <;> omega
          have hsz2 : (txt (wrapP b'.bd b'.pr 3)).size ≤ 20002 := by rw [txt_size]; split at hwb <;> omega
          have hpr : txt (T.bin ⟨6, sg⟩ a b').pr = txt (wrapP a.bd a.pr 2) ++ ⟨#[38]⟩ ++ txt (wrapP b'.bd b'.pr 3) := by
            rw [T.pr_bin, txt_append, txt_append]
            rfl
          have hX : Hid (pcr (T.bin ⟨6, sg⟩ a b' :: R) = pcr R ++ [(txt (wrapP a.bd a.pr 2) ++ ⟨#[38]⟩ ++ txt (wrapP b'.bd b'.pr 3), (6 : Int))]) := by
            refine Lib.hid ((pcr_push _ _).trans ?_)
            rw [hpr]
            rfl
          have q0 : (⟨#[38]⟩ : ByteArray).size = 1 := rfl
          have hPL : (txt (wrapP a.bd a.pr 2)).size + 1 + (txt (wrapP b'.bd b'.pr 3)).size = (T.bin ⟨6, sg⟩ a b').pr.length := by
            rw [← txt_size (T.bin ⟨6, sg⟩ a b').pr, hpr, ByteArray.size_append, ByteArray.size_append, q0]
          have HCU := Lib.hid (HCUT.out (.bin ⟨6, sg⟩ a b') (by simp))
          clear hwa hwb hpr HCUT
          generalize (T.bin ⟨6, sg⟩ a b').pr.length = PL at *
          generalize txt (wrapP a.bd a.pr 2) = u1 at *
          generalize txt (wrapP b'.bd b'.pr 3) = u2 at *
          have q1 : ¬ 9223372036854775807 < u1.size + (⟨#[38]⟩ : ByteArray).size := by omega
          have q2 : ¬ 9223372036854775807 < u1.size + (⟨#[38]⟩ : ByteArray).size + u2.size := by omega
          have q3 : u1.size + (⟨#[38]⟩ : ByteArray).size ≤ 9223372036854775807 := by omega
          have q4 : u1.size + (⟨#[38]⟩ : ByteArray).size + u2.size ≤ 9223372036854775807 := by omega
          have q5 : ¬ 9223372036854775807 < u1.size + 1 := by omega
          have q6 : ¬ 9223372036854775807 < u1.size + 1 + u2.size := by omega
          have q7 : u1.size + 1 ≤ 9223372036854775807 := by omega
          have q8 : u1.size + 1 + u2.size ≤ 9223372036854775807 := by omega
          have q9 : ¬ 9223372036854775807 < u1.size := by omega
          have q10 : u1.size ≤ 9223372036854775807 := by omega
          have q11 : ¬ 9223372036854775807 < u1.size + u2.size := by omega
          have q12 : u1.size + u2.size ≤ 9223372036854775807 := by omega
          have m1 : IntKind.i64.wrap 2 = 2 := by decide
          have HPL := Lib.hid hPL
          have HZ1 := Lib.hid hsz1
          have HZ2 := Lib.hid hsz2
          clear hPL hsz1 hsz2
          go_wp2_with fail
          go_region_held3 (fun w' => (∀ c o, c < wr.heap.size → w'.cell? ⟨c, o, none⟩ = wr.cell? ⟨c, o, none⟩) ∧ Ext wr w') (refine ⟨Ext.cells ?_, ?_⟩ <;> ((repeat (first | assumption | exact Ext.refl _ | apply Ext.alloc | apply Ext.drew | apply Ext.drewN | refine Ext.set ?_ (by first | exact Nat.le_refl _ | assumption | exact Nat.le_succ _ | exact Nat.le_add_right _ _ | exact Nat.le_trans (Nat.le_succ _) (Nat.le_succ _) | omega) _ | refine Ext.trans ?_ (by assumption))))) (first
            | ((go_at_call 33; (with_reducible refine (HK.out _).mono ?_); rintro e w' ⟨rfl, hw⟩; obtain rfl := hw.symm))
            | ((go_at_call 32; (with_reducible refine (HA.out _).mono ?_); rintro e w2 ⟨rfl, h2⟩); (try replace h2 := Ext.undrew h2); have := (h2).cells; have := (h2).frozens; have : wr.heap.size < w2.heap.size := Nat.lt_of_lt_of_le (by first | assumption | (simp; done) | (simp; omega)) (h2).le)
            | ((go_at_call 32; (with_reducible refine (HB.out _).mono ?_); rintro e w3 ⟨rfl, h3⟩); (try replace h3 := Ext.undrew h3); have := (h3).cells; have := (h3).frozens; have : wr.heap.size < w3.heap.size := Nat.lt_of_lt_of_le (by first | assumption | (simp; done) | (simp; omega)) (h3).le))
          all_goals
            have EX : Ext wr (w3.setCell ⟨wr.heap.size, 0, none⟩ (.string (u1 ++ ⟨#[38]⟩ ++ u2))) := by
              refine (?_ : Ext wr w3).set (Nat.le_refl _) _
              (repeat (first | assumption | exact Ext.refl _ | apply Ext.alloc | apply Ext.drew | apply Ext.drewN | refine Ext.trans ?_ (by assumption)))
            have MD := (((Made.new wr _ ⟨#[]⟩ 6).ext h2).ext h3).put (u1 ++ ⟨#[38]⟩ ++ u2)
            generalize htx : u1 ++ ⟨#[38]⟩ ++ u2 = tx at *
            have hts : tx.size = PL := by rw [← htx, ByteArray.size_append, ByteArray.size_append, q0]; exact HPL.out
            generalize w3.setCell ⟨wr.heap.size, 0, none⟩ (.string tx) = W4 at *
            have d0 := MD.c0
            have d1 := MD.c1
            have hd := MD.lt
            have hWl := EX.le
            have hoT := (HQ.out.ext EX).take rfl R.length (by rw [H1.out]; omega)
            rw [H4.out] at hoT
            have HX2 := hX
            have HT := Lib.hid hoT
            clear hoT h2 h3 htx q0 q1 q2 q3 q4 q5 q6 q7 q8 q9 q10 q11 q12 HA HB HK HZ1 HZ2 hp0 hp1 hp2 hp3
            by_cases hbig : 2000 < PL
            · have hzp : (2000 : Int) < tx.size := by omega
              have hz : decide ((2000 : Int) < tx.size) = true := decide_eq_true hzp
              have HCV := Lib.hid (HCU.out hbig)
              clear hbig HCU hts
              go_wp2_with fail
              go_ret2
              rw [HCV.out]
              exact ⟨rfl, H3.out.trans EX⟩
            · have hzp : ¬ (2000 : Int) < tx.size := by omega
              have hz : decide ((2000 : Int) < tx.size) = false := decide_eq_false hzp
              have hi := H6.out
              have hlen := H8.out
              clear hbig HCU hts
              go_wp2_with (first
                | ((with_reducible refine gate_bi .append #[.tmp 133, .tmp 135] ?_); refine wp_append (t := tyPr) 66 w.heap.size 24 elPr No _ (pcr R) rfl (HT.out.ext ((Ext.refl _).alloc _)) (.slice (some ⟨W4.heap.size, 0, none⟩) 1 1) [(tx, (6 : Int))] rfl Any (one_mark rfl _ #[.string tx, .int .i64 6] (fun _ _ => rfl)) (fun _ _ h => h) (by rw [H5.out, List.length_singleton]; omega) (by decide) (by simp; omega) ?_; intro v6 w6 ho6 hg6 _; have hx6 : Ext w w6 := Ext.grown (H3.out.trans (EX.alloc _)) hg6 HT.out.lo))
              go_roundw
              case rel => exact ⟨i + 1, _, by go_num, by omega, H2.out, by rw [HX2.out]; exact ho6, hx6⟩
              case measure => simp [intOf]; omega
        · have HA : Hid (∀ W, Calls Try.prog 32 #[.agg #[.string (txt a.pr), .int .i64 a.root.k], .int .i64 2] W fun e w' => e = .returned (.string (txt (wrapP a.bd a.pr 3))) ∧ Ext W w') := Lib.hid (fun W => by have := rat_calls (txt a.pr) a.root.k 2 (by rw [txt_size]; omega) W; rw [txt_wrap] at this; exact this)
          have HB : Hid (∀ W, Calls Try.prog 32 #[.agg #[.string (txt b'.pr), .int .i64 b'.root.k], .int .i64 3] W fun e w' => e = .returned (.string (txt (wrapP b'.bd b'.pr 4))) ∧ Ext W w') := Lib.hid (fun W => by have := rat_calls (txt b'.pr) b'.root.k 3 (by rw [txt_size]; omega) W; rw [txt_wrap] at this; exact this)
          have HK : Hid (∀ W, Calls Try.prog 33 #[.int .i64 7] W fun e w' => e = .returned (.int .i64 2) ∧ w' = W) := Lib.hid (fun W => rank_calls 7 W)
          have hwa := wrap_len a.bd a.pr 3
          have hwb := wrap_len b'.bd b'.pr 4
          have hsz1 : (txt (wrapP a.bd a.pr 3)).size ≤ 20002 := by rw [txt_size]; split at hwa <;> omega
          have hsz2 : (txt (wrapP b'.bd b'.pr 4)).size ≤ 20002 := by rw [txt_size]; split at hwb <;> omega
          have hpr : txt (T.bin ⟨7, sg⟩ a b').pr = txt (wrapP a.bd a.pr 3) ++ ⟨#[]⟩ ++ txt (wrapP b'.bd b'.pr 4) := by
            rw [T.pr_bin, txt_append, txt_append]
            rfl
          have hX : Hid (pcr (T.bin ⟨7, sg⟩ a b' :: R) = pcr R ++ [(txt (wrapP a.bd a.pr 3) ++ ⟨#[]⟩ ++ txt (wrapP b'.bd b'.pr 4), (7 : Int))]) := by
            refine Lib.hid ((pcr_push _ _).trans ?_)
            rw [hpr]
            rfl
          have q0 : (⟨#[]⟩ : ByteArray).size = 0 := rfl
          have hPL : (txt (wrapP a.bd a.pr 3)).size + 0 + (txt (wrapP b'.bd b'.pr 4)).size = (T.bin ⟨7, sg⟩ a b').pr.length := by
            rw [← txt_size (T.bin ⟨7, sg⟩ a b').pr, hpr, ByteArray.size_append, ByteArray.size_append, q0]
          have HCU := Lib.hid (HCUT.out (.bin ⟨7, sg⟩ a b') (by simp))
          clear hwa hwb hpr HCUT
          generalize (T.bin ⟨7, sg⟩ a b').pr.length = PL at *
          generalize txt (wrapP a.bd a.pr 3) = u1 at *
          generalize txt (wrapP b'.bd b'.pr 4) = u2 at *
          have q1 : ¬ 9223372036854775807 < u1.size + (⟨#[]⟩ : ByteArray).size := by omega
          have q2 : ¬ 9223372036854775807 < u1.size + (⟨#[]⟩ : ByteArray).size + u2.size := by omega
          have q3 : u1.size + (⟨#[]⟩ : ByteArray).size ≤ 9223372036854775807 := by omega
          have q4 : u1.size + (⟨#[]⟩ : ByteArray).size + u2.size ≤ 9223372036854775807 := by omega
          have q5 : ¬ 9223372036854775807 < u1.size + 0 := by omega
          have q6 : ¬ 9223372036854775807 < u1.size + 0 + u2.size := by omega
          have q7 : u1.size + 0 ≤ 9223372036854775807 := by omega
          have q8 : u1.size + 0 + u2.size ≤ 9223372036854775807 := by omega
          have q9 : ¬ 9223372036854775807 < u1.size := by omega
          have q10 : u1.size ≤ 9223372036854775807 := by omega
          have q11 : ¬ 9223372036854775807 < u1.size + u2.size := by omega
          have q12 : u1.size + u2.size ≤ 9223372036854775807 := by omega
          have m1 : IntKind.i64.wrap 3 = 3 := by decide
          have HPL := Lib.hid hPL
          have HZ1 := Lib.hid hsz1
          have HZ2 := Lib.hid hsz2
          clear hPL hsz1 hsz2
          go_wp2_with fail
          go_region_held3 (fun w' => (∀ c o, c < wr.heap.size → w'.cell? ⟨c, o, none⟩ = wr.cell? ⟨c, o, none⟩) ∧ Ext wr w') (refine ⟨Ext.cells ?_, ?_⟩ <;> ((repeat (first | assumption | exact Ext.refl _ | apply Ext.alloc | apply Ext.drew | apply Ext.drewN | refine Ext.set ?_ (by first | exact Nat.le_refl _ | assumption | exact Nat.le_succ _ | exact Nat.le_add_right _ _ | exact Nat.le_trans (Nat.le_succ _) (Nat.le_succ _) | omega) _ | refine Ext.trans ?_ (by assumption))))) (first
            | ((go_at_call 33; (with_reducible refine (HK.out _).mono ?_); rintro e w' ⟨rfl, hw⟩; obtain rfl := hw.symm))
            | ((go_at_call 32; (with_reducible refine (HA.out _).mono ?_); rintro e w2 ⟨rfl, h2⟩); (try replace h2 := Ext.undrew h2); have := (h2).cells; have := (h2).frozens; have : wr.heap.size < w2.heap.size := Nat.lt_of_lt_of_le (by first | assumption | (simp; done) | (simp; omega)) (h2).le)
            | ((go_at_call 32; (with_reducible refine (HB.out _).mono ?_); rintro e w3 ⟨rfl, h3⟩); (try replace h3 := Ext.undrew h3); have := (h3).cells; have := (h3).frozens; have : wr.heap.size < w3.heap.size := Nat.lt_of_lt_of_le (by first | assumption | (simp; done) | (simp; omega)) (h3).le))
          all_goals
            have EX : Ext wr (w3.setCell ⟨wr.heap.size, 0, none⟩ (.string (u1 ++ ⟨#[]⟩ ++ u2))) := by
              refine (?_ : Ext wr w3).set (Nat.le_refl _) _
              (repeat (first | assumption | exact Ext.refl _ | apply Ext.alloc | apply Ext.drew | apply Ext.drewN | refine Ext.trans ?_ (by assumption)))
            have MD := (((Made.new wr _ ⟨#[]⟩ 7).ext h2).ext h3).put (u1 ++ ⟨#[]⟩ ++ u2)
            generalize htx : u1 ++ ⟨#[]⟩ ++ u2 = tx at *
            have hts : tx.size = PL := by rw [← htx, ByteArray.size_append, ByteArray.size_append, q0]; exact HPL.out
            generalize w3.setCell ⟨wr.heap.size, 0, none⟩ (.string tx) = W4 at *
            have d0 := MD.c0
            have d1 := MD.c1
            have hd := MD.lt
            have hWl := EX.le
            have hoT := (HQ.out.ext EX).take rfl R.length (by rw [H1.out]; omega)
            rw [H4.out] at hoT
            have HX2 := hX
            have HT := Lib.hid hoT
            clear hoT h2 h3 htx q0 q1 q2 q3 q4 q5 q6 q7 q8 q9 q10 q11 q12 HA HB HK HZ1 HZ2 hp0 hp1 hp2 hp3
            by_cases hbig : 2000 < PL
            · have hzp : (2000 : Int) < tx.size := by omega
              have hz : decide ((2000 : Int) < tx.size) = true := decide_eq_true hzp
              have HCV := Lib.hid (HCU.out hbig)
              clear hbig HCU hts
              go_wp2_with fail
              go_ret2
              rw [HCV.out]
              exact ⟨rfl, H3.out.trans EX⟩
            · have hzp : ¬ (2000 : Int) < tx.size := by omega
              have hz : decide ((2000 : Int) < tx.size) = false := decide_eq_false hzp
              have hi := H6.out
              have hlen := H8.out
              clear hbig HCU hts
              go_wp2_with (first
                | ((with_reducible refine gate_bi .append #[.tmp 133, .tmp 135] ?_); refine wp_append (t := tyPr) 66 w.heap.size 24 elPr No _ (pcr R) rfl (HT.out.ext ((Ext.refl _).alloc _)) (.slice (some ⟨W4.heap.size, 0, none⟩) 1 1) [(tx, (7 : Int))] rfl Any (one_mark rfl _ #[.string tx, .int .i64 7] (fun _ _ => rfl)) (fun _ _ h => h) (by rw [H5.out, List.length_singleton]; omega) (by decide) (by simp; omega) ?_; intro v6 w6 ho6 hg6 _; have hx6 : Ext w w6 := Ext.grown (H3.out.trans (EX.alloc _)) hg6 HT.out.lo))
              go_roundw
              case rel => exact ⟨i + 1, _, by go_num, by omega, H2.out, by rw [HX2.out]; exact ho6, hx6⟩
              case measure => simp [intOf]; omega
    · have hi' : i = t.length := by omega
      subst hi'
      obtain ⟨y, rfl, hyw, hyf⟩ := hS.done
      have htr : tr t = y := by rw [← hyf]; exact tr_flat hyw
      have hyl := Eg.St.small hS hlen y (by simp)
      have hin := pcr_top y []
      obtain ⟨A7, c7, rfl, h71, h72⟩ := ho.shape
      rw [pcr_len, List.length_cons, List.length_nil] at h71 ho
      obtain ⟨g, rfl, hgb, hgs⟩ : ∃ g, A7 = some ⟨g, 0, none⟩ ∧ w.heap.size ≤ g ∧ g < wr.heap.size := by
        rcases ho.zero with ⟨_, h0, _⟩ | ⟨g, h1, h2, h3, _⟩
        · omega
        · exact ⟨g, h1, h2, h3⟩
      obtain ⟨b9, o9, e9, hb9, hp0, hp1⟩ := rd_pr ho.rd hin
      cases e9
      simp only [List.length_nil, Nat.zero_mul, Nat.add_zero] at hp0
      have hlen7 : (pcr [y]).length = 0 + 1 := by rw [pcr_len]; rfl
      have hts := txt_size y.pr
      rw [htr] at HE
      clear hS hyf hr htr hi hlt ho hin hp1
      rw [hlen7]
      by_cases hbig : 1000 < y.pr.length
      · have HE' : Hid (printF k t = (40, [])) := Lib.hid (HE.out.trans (if_pos hbig))
        have hd : decide ((1000 : Int) < ((txt y.pr).size : Int)) = true := by rw [hts]; simp; omega
        clear HE
        go_wp2_with fail
        go_ret2
        rw [HE'.out]
        exact ⟨rfl, he⟩
      · have HE' : Hid (printF k t = (0, y.pr)) := Lib.hid (HE.out.trans (if_neg hbig))
        have hd : decide ((1000 : Int) < ((txt y.pr).size : Int)) = false := by rw [hts]; simp; omega
        clear HE
        go_wp2_with fail
        go_ret2
        rw [HE'.out]
        exact ⟨rfl, he⟩
end Go.Proofs.Ytaijjnndnoicpaa
