/- slices.Insert of one element, at loans and holds. -/
import Derived.Test.YthnblhbdfpmolaaPNotemxae
import Derived.Test.YthnblhbdfpmolaaPNotemxab
namespace Go.Proofs.Ythnblhbdfpmolaa
open Go.RowKit
set_option maxHeartbeats 1000000 in
set_option maxRecDepth 100000 in
theorem insert_loan_end (base : Nat) (s : Sl Loan) (x : Loan) (vb : Nat) (w : World) (hown : Own base 136 3 Loan.enc w s) (hv : Blk w vb 136 #[.int .i64 x.p, .int .i64 x.u, .int .i64 x.s])
    (hb : (s.l.length + 1) * 24 ≤ 140737488355328) (hbase : base ≤ w.heap.size) :
    Calls Try.prog 105 #[.slice s.A s.l.length s.c, .int .i64 (s.l.length : Nat), .slice (some ⟨vb, 0, none⟩) 1 1] w fun e w' =>
      ∃ A c, e = .returned (.slice A (s.l.length + 1) c) ∧ Own base 136 3 Loan.enc w' ⟨A, c, s.l ++ [x]⟩ ∧ w.grownBy w' (Value.slice s.A s.l.length s.c).ownBlock ∧ (A = s.A ∨ A = some ⟨w.heap.size, 0, none⟩) := by
  obtain ⟨A, c, l⟩ := s
  simp only at hb hown ⊢
  have hlc : l.length ≤ c := by
    rcases hown.form with ⟨_, _, hl⟩ | ⟨g, _, _, _, h, _⟩
    · simp only at hl; rw [hl]; simp
    · exact h
  have hn : l.length ≤ 5864062014806 := by omega
  have HO := Lib.hid hown
  have HV := Lib.hid hv
  have hrv : Rd (fun b => b = vb) 3 Loan.enc w ⟨some ⟨vb, 0, none⟩, 1, [x]⟩ := ⟨Nat.le_refl _, by simp [maxLen], (fun h => by cases h), fun i y hy => by
    match i, hy with
    | 0, hy =>
      simp at hy; subst hy
      exact ⟨vb, 0, rfl, rfl, fun j u hu => by rw [hv.cell]; simpa [Loan.enc] using hu⟩
    | i + 1, hy => simp at hy⟩
  have HR := Lib.hid hrv
  clear hown hv hrv
  rcases Nat.eq_or_lt_of_le hlc with hcl | hcl
  · subst hcl
    go_enter Try.func105, Try.ntmps105
    go_wp2_with (at_builtin
                 go_must (refine wpl_append_sl _ rfl (.tmp 23) (.tmp 24) _ rfl Try.underlying64 infoLoan (by omega) Loan.k Loan.one ⟨A, l.length, l⟩ ⟨some ⟨vb, 0, none⟩, 1, [x]⟩ rfl rfl HO.out HR.out (by simp [maxLen]; omega) (by simp; omega) hbase ?_)
                 intro A' c' w1 hown' hg hat)
    go_ret
    exact ⟨A', c', rfl, hown', hg, hat⟩
  · have hcl' : ¬ c = l.length := by omega
    go_enter Try.func105, Try.ntmps105
    go_wp2_with (at_builtin
                 go_must (refine wpl_append_sl _ rfl (.tmp 23) (.tmp 24) _ rfl Try.underlying64 infoLoan (by omega) Loan.k Loan.one ⟨A, c, l⟩ ⟨some ⟨vb, 0, none⟩, 1, [x]⟩ rfl rfl HO.out HR.out (by simp [maxLen]; omega) (by simp; omega) hbase ?_)
                 intro A' c' w1 hown' hg hat)
    go_ret
    exact ⟨A', c', rfl, hown', hg, hat⟩
set_option maxHeartbeats 1000000 in
set_option maxRecDepth 100000 in
theorem insert_loan_room (base : Nat) (s : Sl Loan) (i : Nat) (x : Loan) (vb g : Nat) (w : World) (hown : Own base 136 3 Loan.enc w s) (hA : s.A = some ⟨g, 0, none⟩) (hi : i < s.l.length) (hroom : s.l.length + 1 ≤ s.c)
    (hv : Blk w vb 136 #[.int .i64 x.p, .int .i64 x.u, .int .i64 x.s]) (hvb : vb ≠ g)
    (hb : (s.l.length + 1) * 24 ≤ 140737488355328) (hcm : s.c ≤ 9223372036854775807) (hbase : base ≤ w.heap.size) :
    Calls Try.prog 105 #[.slice s.A s.l.length s.c, .int .i64 (i : Nat), .slice (some ⟨vb, 0, none⟩) 1 1] w fun e w' =>
      ∃ A c, e = .returned (.slice A (s.l.length + 1) c) ∧ Own base 136 3 Loan.enc w' ⟨A, c, s.l.take i ++ x :: s.l.drop i⟩ ∧ w.grownBy w' (Value.slice s.A s.l.length s.c).ownBlock ∧ (A = s.A ∨ A = some ⟨w.heap.size, 0, none⟩) := by
  obtain ⟨A, c, l⟩ := s
  simp only at hb hown hA hi hroom hcm ⊢
  subst hA
  obtain ⟨cur, hB, hcs, htk, hlc, hcm2, hbg⟩ := hown.blk rfl
  simp only at hcs htk hlc
  have hn : l.length ≤ 5864062014806 := by omega
  have hov : ∀ W lb cb, Blk W vb 136 #[.int .i64 x.p, .int .i64 x.u, .int .i64 x.s] → Blk W g 136 cur → (callFunc 129 #[.slice (some ⟨vb, 0, none⟩) 1 1, .slice (some ⟨g, (i + 1) * 3, none⟩) lb cb]).run Try.prog W = .ok (.value (.bool false)) W := fun W lb cb h1 h2 => by
    unfold Blk at h1 h2
    rw [run_callFunc_extern Try.func129 (by kernel_rfl) (by kernel_rfl) (by kernel_rfl) (e := Extern.SlicesOverlaps.overlaps #[64, 64] #[4]) (by kernel_rfl),
      Lib.run_overlaps_apart W 64 4 136 Try.underlying64 3 Try.sizeOf136 ⟨vb, 0, none⟩ ⟨g, (i + 1) * 3, none⟩ 1 1 lb cb hvb 136 136 3 cur.size (by simp [World.shape?, h1]) (by simp [World.shape?, h2]) (by omega) (by simp [World.frozen?, h1]) (by simp [World.frozen?, h1])]
    rfl
  have hcl1 : ¬ c = i := by omega
  have hcl2 : ¬ c = i + 1 := by omega
  have hov1 := fun lb cb => hov w lb cb hv hB
  have HB := Lib.hid hB
  have HV := Lib.hid hv
  have HC := Lib.hid hcs
  have HT := Lib.hid htk
  have hsz : (l.length + 1) * 3 ≤ cur.size := by omega
  have hsz' : (i + 1) * 3 + (l.length - i) * 3 ≤ cur.size := by omega
  have HS := Lib.hid hsz
  have HS' := Lib.hid hsz'
  clear hB hv hcs htk hown hov hsz hsz'
  go_enter Try.func105, Try.ntmps105
  go_wp2_with (simp only [hov1])
  have hw1 : IntKind.i64.wrap ((i : Int) + 1) = (i : Int) + 1 := by rw [IntKind.wrap_i64]; omega
  have hb1 : (0 : Int) ≤ (i : Int) + 1 := by omega
  have htn : ((i : Int) + 1).toNat = i + 1 := by omega
  have hin : (i : Int) ≤ (l.length : Int) := by omega
  have hin' : (i : Int) ≤ (l.length : Int) + 1 := by omega
  have hk1 : ((l.drop i).flatMap Loan.enc).length = (l.length - i) * 3 := by rw [flat_len Loan.k, List.length_drop]
  have hk2 : Cells w g (i * 3) ((l.drop i).flatMap Loan.enc) := HB.out.flat Loan.k HT.out i
  have hk3 : (i + 1) * 3 + ((l.drop i).flatMap Loan.enc).length ≤ cur.size := by rw [flat_len Loan.k, List.length_drop]; exact HS'.out
  have hk4 : ∀ v ∈ (l.drop i).flatMap Loan.enc, v.oneCell' = true := fun v hv => by obtain ⟨y, _, hy⟩ := List.mem_flatMap.1 hv; exact Loan.one y v hy
  have K1 := Lib.hid hk1
  have K2 := Lib.hid hk2
  have K3 := Lib.hid hk3
  have K4 := Lib.hid hk4
  clear hk1 hk2 hk3 hk4
  go_region_law ((refine step_copy_k rfl (.tmp 73) (.tmp 76) 64 64 rfl Try.underlying64 infoLoan g ((i + 1) * 3) (l.length - i) (c - (i + 1)) g (i * 3) (l.length + 1 - i) (c - i) cur 136 ((l.drop i).flatMap Loan.enc) (by simp [Act.eval, Act.put]) (by simp [Act.eval, Act.put]) (l.length - i) (Nat.min_eq_right (by omega)) HB.out.drew K1.out K2.out K3.out K4.out ?_; intro w1 hB1 hg1))
  have HB1 := Lib.hid hB1
  have HV1 : Hid (Cells w1 vb 0 (Loan.enc x)) := Lib.hid (HV.out.drew.grown hg1 (by simp; exact hvb)).c3c
  have HG1 := Lib.hid hg1
  clear hB1 hg1
  have L1 := ins_room (x := x) Loan.k HT.out (Nat.le_of_lt hi) (by simpa using HS.out) rfl rfl
  have hk5 : i * 3 + (Loan.enc x).length ≤ (cur.toList.take ((i + 1) * 3) ++ (l.drop i).flatMap Loan.enc ++ cur.toList.drop ((i + 1) * 3 + ((l.drop i).flatMap Loan.enc).length)).toArray.size := by
    rw [List.size_toArray, L1.1, Loan.k, Array.length_toList]; have := HS.out; omega
  have K5 := Lib.hid hk5
  have HL := Lib.hid L1
  clear hk5 L1
  go_wp2_with ((refine wpl_copy_k rfl (.tmp 80) (.tmp 81) 64 64 rfl Try.underlying64 infoLoan g (i * 3) (l.length + 1 - i) (c - i) vb 0 1 1 _ 136 (Loan.enc x) rfl rfl 1 (by simp only [Nat.min_def]; rw [if_pos (by omega)]) HB1.out rfl HV1.out K5.out (Loan.one x) ?_); intro w2 hB2 hg2)
  go_ret
  refine ⟨_, c, rfl, ?_, ?_, .inl rfl⟩
  · refine Own.of_blk Loan.k hB2 ?_ ?_ ?_ hcm2 hbg
    · have h1 := HL.out.2.1; have h2 := HC.out; simp only [List.size_toArray]; rw [← h2, ← Array.length_toList, ← h1]
    · have h1 := HL.out.2.2
      have h3 : (l.take i ++ x :: l.drop i).length = l.length + 1 := by simp; omega
      simp only [h3]; exact h1
    · simp; omega
  · exact ⟨hg2.os.trans HG1.out.os, hg2.tape.trans HG1.out.tape, hg2.output.trans HG1.out.output, Nat.le_trans HG1.out.size hg2.size, fun j hj hne => (hg2.block j (Nat.lt_of_lt_of_le hj HG1.out.size) hne).trans (HG1.out.block j hj hne)⟩
set_option maxHeartbeats 1000000 in
set_option maxRecDepth 100000 in
theorem insert_loan_grow (base : Nat) (s : Sl Loan) (i : Nat) (x : Loan) (vb g : Nat) (w : World) (hown : Own base 136 3 Loan.enc w s) (hA : s.A = some ⟨g, 0, none⟩) (hi : i < s.l.length) (hroom : s.c < s.l.length + 1)
    (hv : Blk w vb 136 #[.int .i64 x.p, .int .i64 x.u, .int .i64 x.s])
    (hb : (s.l.length + 1) * 24 ≤ 140737488355328) (hbase : base ≤ w.heap.size) :
    Calls Try.prog 105 #[.slice s.A s.l.length s.c, .int .i64 (i : Nat), .slice (some ⟨vb, 0, none⟩) 1 1] w fun e w' =>
      ∃ A c, e = .returned (.slice A (s.l.length + 1) c) ∧ Own base 136 3 Loan.enc w' ⟨A, c, s.l.take i ++ x :: s.l.drop i⟩ ∧ w.grownBy w' (Value.slice s.A s.l.length s.c).ownBlock ∧ (A = s.A ∨ A = some ⟨w.heap.size, 0, none⟩) := by
  obtain ⟨A, c, l⟩ := s
  simp only at hb hown hA hi hroom ⊢
  subst hA
  obtain ⟨cur, hB, hcs, htk, hlc, hcm2, hbg⟩ := hown.blk rfl
  simp only at hcs htk hlc
  have hn : l.length ≤ 5864062014806 := by omega
  have hcn : c = l.length := by omega
  subst hcn
  have hcl1 : ¬ l.length = i := by omega
  have hlt := hB.lt
  have hvlt := hv.lt
  have HB := Lib.hid hB
  have HV := Lib.hid hv
  have HT := Lib.hid htk
  have hk0 : ((l.take i).flatMap Loan.enc).length = i * 3 := by rw [flat_len Loan.k, List.length_take, Nat.min_eq_left (Nat.le_of_lt hi)]
  have K0 := Lib.hid hk0
  have hfit := Go.growslice_fits (need := l.length + 1) (old := l.length) (bytes := 24) (by omega) hb
  have KF := Lib.hid hfit
  have hik : (l.length : Int) + 1 - (i : Int) = ((l.length + 1 - i : Nat) : Int) := by omega
  have KI := Lib.hid hik
  clear hB hv hcs htk hown hk0 hfit hik
  go_enter Try.func105, Try.ntmps105
  go_wp2_with (first
    | (refine wpl_append_zeros rfl (.tmp 34) (.tmp 39) 64 3 rfl Try.underlying64 Try.underlying3 infoLoan (by omega) g 0 i l.length (l.length + 1 - i) (l.length + 1) (by omega) ((l.take i).flatMap Loan.enc) rfl (by first | rfl | (rw [← KI.out]; rfl)) K0.out (HB.out.flat_take Loan.k HT.out i) (by omega) (by omega) (by omega) (by omega) (by rw [show i + (l.length + 1 - i) = l.length + 1 by omega]; exact KF.out) ?_
       intro w1 G cur1 h1 h2 h3 h4 h5 h6 h7
       have A1 := Lib.hid h3
       have A2 := Lib.hid h4
       have A3 := Lib.hid h5
       have A4 := Lib.hid h6
       have hG1 : ¬ G = i := by omega
       have hG2 : ¬ G = i + 1 := by omega
       have VE : Hid (Cells w1 vb 0 (Loan.enc x)) := Lib.hid (HV.out.grown h6 (by simp)).c3c
       have BE : Hid (Blk w1 g 136 cur) := Lib.hid (HB.out.grown h6 (by simp))
       have hk5 : i * 3 + (Loan.enc x).length ≤ cur1.size := by rw [h3, Loan.k]; omega
       have K5 := Lib.hid hk5
       clear h3 h4 h5 h6 hk5)
    | (refine wpl_copy_k rfl (.tmp 43) (.tmp 44) 64 64 rfl Try.underlying64 infoLoan w.heap.size (i * 3) (l.length + 1 - i) (G - i) vb 0 1 1 cur1 136 (Loan.enc x) rfl rfl 1 (by simp only [Nat.min_def]; rw [if_pos (by omega)]) A3.out rfl VE.out K5.out (Loan.one x) ?_
       intro w2 hB2 hg2))
  have hcl3 : cur1.toList.length = G * 3 := by rw [Array.length_toList]; exact A1.out
  have L1 := ins_grow (x := x) Loan.k A2.out (Nat.le_of_lt hi) (by rw [hcl3]; exact Nat.mul_le_mul_right 3 h1) rfl rfl
  have hw1 : IntKind.i64.wrap ((i : Int) + 1) = (i : Int) + 1 := by rw [IntKind.wrap_i64]; omega
  have hb1 : (0 : Int) ≤ (i : Int) + 1 := by omega
  have htn : ((i : Int) + 1).toNat = i + 1 := by omega
  have hin : (i : Int) ≤ (l.length : Int) := by omega
  have hk1 : ((l.drop i).flatMap Loan.enc).length = (l.length - i) * 3 := by rw [flat_len Loan.k, List.length_drop]
  have hk2 : Cells w2 g (i * 3) ((l.drop i).flatMap Loan.enc) := (BE.out.grown hg2 (by simp; omega)).flat Loan.k HT.out i
  have hk3 : (i + 1) * 3 + ((l.drop i).flatMap Loan.enc).length ≤ (cur1.toList.take (i * 3) ++ Loan.enc x ++ cur1.toList.drop (i * 3 + (Loan.enc x).length)).toArray.size := by rw [List.size_toArray, L1.1, hcl3, hk1]; omega
  have hk4 : ∀ v ∈ (l.drop i).flatMap Loan.enc, v.oneCell' = true := fun v hv => by obtain ⟨y, _, hy⟩ := List.mem_flatMap.1 hv; exact Loan.one y v hy
  have M1 := Lib.hid hk1
  have M2 := Lib.hid hk2
  have M3 := Lib.hid hk3
  have M4 := Lib.hid hk4
  have HL := Lib.hid L1
  have B2 := Lib.hid hB2
  have G2 := Lib.hid hg2
  clear hk1 hk2 hk3 hk4 L1 hB2 hg2 hcl3
  go_region_law ((refine step_copy_k rfl (.tmp 50) (.tmp 53) 64 64 rfl Try.underlying64 infoLoan w.heap.size ((i + 1) * 3) (l.length - i) (G - (i + 1)) g (i * 3) (l.length - i) (l.length - i) _ 136 ((l.drop i).flatMap Loan.enc) (by simp [Act.eval, Act.put]) (by simp [Act.eval, Act.put]) (l.length - i) (Nat.min_self _) B2.out.drew M1.out M2.out M3.out M4.out ?_); intro w3 hB3 hg3)
  have G3 := Lib.hid hg3
  have B3 := Lib.hid hB3
  clear hg3 hB3
  go_wp2_with fail
  go_ret
  refine ⟨_, G, rfl, ?_, ?_, .inr rfl⟩
  · refine Own.of_blk Loan.k B3.out ?_ ?_ ?_ h2 hbase
    · have h1 := HL.out.2.1; have h2 := A1.out; simp only [List.size_toArray, List.toList_toArray]; rw [← h2, ← Array.length_toList, ← h1]
    · have h1 := HL.out.2.2
      have h3 : (l.take i ++ x :: l.drop i).length = l.length + 1 := by simp; omega
      simp only [h3]; exact h1
    · simp; omega
  · have hsz1 : w.heap.size ≤ w1.heap.size := A4.out.size
    have hsz2 : w1.heap.size ≤ w2.heap.size := G2.out.size
    have g1 := A4.out
    have g2 := G2.out
    have g3 := G3.out
    exact ⟨g3.os.trans (g2.os.trans g1.os), g3.tape.trans (g2.tape.trans g1.tape), g3.output.trans (g2.output.trans g1.output), Nat.le_trans hsz1 (Nat.le_trans hsz2 g3.size), fun j hj hne =>
      (g3.block j (Nat.lt_of_lt_of_le hj (Nat.le_trans hsz1 hsz2)) (by simp; omega)).trans ((g2.block j (Nat.lt_of_lt_of_le hj hsz1) (by simp; omega)).trans (g1.block j hj (by simp)))⟩
theorem insert_loan (base : Nat) (s : Sl Loan) (i : Nat) (x : Loan) (vb : Nat) (w : World) (hown : Own base 136 3 Loan.enc w s) (hi : i ≤ s.l.length) (hv : Blk w vb 136 #[.int .i64 x.p, .int .i64 x.u, .int .i64 x.s])
    (hvb : ∀ g, s.A = some ⟨g, 0, none⟩ → vb ≠ g) (hb : (s.l.length + 1) * 24 ≤ 140737488355328) (hbase : base ≤ w.heap.size) :
    Calls Try.prog 105 #[.slice s.A s.l.length s.c, .int .i64 (i : Nat), .slice (some ⟨vb, 0, none⟩) 1 1] w fun e w' =>
      ∃ A c, e = .returned (.slice A (s.l.length + 1) c) ∧ Own base 136 3 Loan.enc w' ⟨A, c, s.l.take i ++ x :: s.l.drop i⟩ ∧ w.grownBy w' (Value.slice s.A s.l.length s.c).ownBlock ∧ (A = s.A ∨ A = some ⟨w.heap.size, 0, none⟩) := by
  rcases Nat.eq_or_lt_of_le hi with h | h
  · subst h
    rw [List.take_length, List.drop_length]
    exact insert_loan_end base s x vb w hown hv hb hbase
  · rcases hown.form with ⟨_, _, hl⟩ | ⟨g, hA, _, _, _, hcm⟩
    · rw [hl] at h; simp at h
    · rcases Nat.lt_or_ge s.c (s.l.length + 1) with hr | hr
      · exact insert_loan_grow base s i x vb g w hown hA h hr hv hb hbase
      · exact insert_loan_room base s i x vb g w hown hA h hr hv (hvb g hA) hb (by unfold maxLen at hcm; omega) hbase
set_option maxHeartbeats 1000000 in
set_option maxRecDepth 100000 in
theorem insert_hold_end (base : Nat) (s : Sl Hold) (x : Hold) (vb : Nat) (w : World) (hown : Own base 62 3 Hold.enc w s) (hv : Blk w vb 62 #[.int .i64 x.st, .int .i64 x.u, .int .i64 x.s])
    (hb : (s.l.length + 1) * 24 ≤ 140737488355328) (hbase : base ≤ w.heap.size) :
    Calls Try.prog 64 #[.slice s.A s.l.length s.c, .int .i64 (s.l.length : Nat), .slice (some ⟨vb, 0, none⟩) 1 1] w fun e w' =>
      ∃ A c, e = .returned (.slice A (s.l.length + 1) c) ∧ Own base 62 3 Hold.enc w' ⟨A, c, s.l ++ [x]⟩ ∧ w.grownBy w' (Value.slice s.A s.l.length s.c).ownBlock ∧ (A = s.A ∨ A = some ⟨w.heap.size, 0, none⟩) := by
  obtain ⟨A, c, l⟩ := s
  simp only at hb hown ⊢
  have hlc : l.length ≤ c := by
    rcases hown.form with ⟨_, _, hl⟩ | ⟨g, _, _, _, h, _⟩
    · simp only at hl; rw [hl]; simp
    · exact h
  have hn : l.length ≤ 5864062014806 := by omega
  have HO := Lib.hid hown
  have HV := Lib.hid hv
  have hrv : Rd (fun b => b = vb) 3 Hold.enc w ⟨some ⟨vb, 0, none⟩, 1, [x]⟩ := ⟨Nat.le_refl _, by simp [maxLen], (fun h => by cases h), fun i y hy => by
    match i, hy with
    | 0, hy =>
      simp at hy; subst hy
      exact ⟨vb, 0, rfl, rfl, fun j u hu => by rw [hv.cell]; simpa [Hold.enc] using hu⟩
    | i + 1, hy => simp at hy⟩
  have HR := Lib.hid hrv
  clear hown hv hrv
  rcases Nat.eq_or_lt_of_le hlc with hcl | hcl
  · subst hcl
    go_enter Try.func64, Try.ntmps64
    go_wp2_with (at_builtin
                 go_must (refine wpl_append_sl _ rfl (.tmp 23) (.tmp 24) _ rfl Try.underlying31 infoHold (by omega) Hold.k Hold.one ⟨A, l.length, l⟩ ⟨some ⟨vb, 0, none⟩, 1, [x]⟩ rfl rfl HO.out HR.out (by simp [maxLen]; omega) (by simp; omega) hbase ?_)
                 intro A' c' w1 hown' hg hat)
    go_ret
    exact ⟨A', c', rfl, hown', hg, hat⟩
  · have hcl' : ¬ c = l.length := by omega
    go_enter Try.func64, Try.ntmps64
    go_wp2_with (at_builtin
                 go_must (refine wpl_append_sl _ rfl (.tmp 23) (.tmp 24) _ rfl Try.underlying31 infoHold (by omega) Hold.k Hold.one ⟨A, c, l⟩ ⟨some ⟨vb, 0, none⟩, 1, [x]⟩ rfl rfl HO.out HR.out (by simp [maxLen]; omega) (by simp; omega) hbase ?_)
                 intro A' c' w1 hown' hg hat)
    go_ret
    exact ⟨A', c', rfl, hown', hg, hat⟩
set_option maxHeartbeats 1000000 in
set_option maxRecDepth 100000 in
theorem insert_hold_room (base : Nat) (s : Sl Hold) (i : Nat) (x : Hold) (vb g : Nat) (w : World) (hown : Own base 62 3 Hold.enc w s) (hA : s.A = some ⟨g, 0, none⟩) (hi : i < s.l.length) (hroom : s.l.length + 1 ≤ s.c)
    (hv : Blk w vb 62 #[.int .i64 x.st, .int .i64 x.u, .int .i64 x.s]) (hvb : vb ≠ g)
    (hb : (s.l.length + 1) * 24 ≤ 140737488355328) (hcm : s.c ≤ 9223372036854775807) (hbase : base ≤ w.heap.size) :
    Calls Try.prog 64 #[.slice s.A s.l.length s.c, .int .i64 (i : Nat), .slice (some ⟨vb, 0, none⟩) 1 1] w fun e w' =>
      ∃ A c, e = .returned (.slice A (s.l.length + 1) c) ∧ Own base 62 3 Hold.enc w' ⟨A, c, s.l.take i ++ x :: s.l.drop i⟩ ∧ w.grownBy w' (Value.slice s.A s.l.length s.c).ownBlock ∧ (A = s.A ∨ A = some ⟨w.heap.size, 0, none⟩) := by
  obtain ⟨A, c, l⟩ := s
  simp only at hb hown hA hi hroom hcm ⊢
  subst hA
  obtain ⟨cur, hB, hcs, htk, hlc, hcm2, hbg⟩ := hown.blk rfl
  simp only at hcs htk hlc
  have hn : l.length ≤ 5864062014806 := by omega
  have hov : ∀ W lb cb, Blk W vb 62 #[.int .i64 x.st, .int .i64 x.u, .int .i64 x.s] → Blk W g 62 cur → (callFunc 110 #[.slice (some ⟨vb, 0, none⟩) 1 1, .slice (some ⟨g, (i + 1) * 3, none⟩) lb cb]).run Try.prog W = .ok (.value (.bool false)) W := fun W lb cb h1 h2 => by
    unfold Blk at h1 h2
    rw [run_callFunc_extern Try.func110 (by kernel_rfl) (by kernel_rfl) (by kernel_rfl) (e := Extern.SlicesOverlaps.overlaps #[31, 31] #[4]) (by kernel_rfl),
      Lib.run_overlaps_apart W 31 4 62 Try.underlying31 3 Try.sizeOf62 ⟨vb, 0, none⟩ ⟨g, (i + 1) * 3, none⟩ 1 1 lb cb hvb 62 62 3 cur.size (by simp [World.shape?, h1]) (by simp [World.shape?, h2]) (by omega) (by simp [World.frozen?, h1]) (by simp [World.frozen?, h1])]
    rfl
  have hcl1 : ¬ c = i := by omega
  have hcl2 : ¬ c = i + 1 := by omega
  have hov1 := fun lb cb => hov w lb cb hv hB
  have HB := Lib.hid hB
  have HV := Lib.hid hv
  have HC := Lib.hid hcs
  have HT := Lib.hid htk
  have hsz : (l.length + 1) * 3 ≤ cur.size := by omega
  have hsz' : (i + 1) * 3 + (l.length - i) * 3 ≤ cur.size := by omega
  have HS := Lib.hid hsz
  have HS' := Lib.hid hsz'
  clear hB hv hcs htk hown hov hsz hsz'
  go_enter Try.func64, Try.ntmps64
  go_wp2_with (simp only [hov1])
  have hw1 : IntKind.i64.wrap ((i : Int) + 1) = (i : Int) + 1 := by rw [IntKind.wrap_i64]; omega
  have hb1 : (0 : Int) ≤ (i : Int) + 1 := by omega
  have htn : ((i : Int) + 1).toNat = i + 1 := by omega
  have hin : (i : Int) ≤ (l.length : Int) := by omega
  have hin' : (i : Int) ≤ (l.length : Int) + 1 := by omega
  have hk1 : ((l.drop i).flatMap Hold.enc).length = (l.length - i) * 3 := by rw [flat_len Hold.k, List.length_drop]
  have hk2 : Cells w g (i * 3) ((l.drop i).flatMap Hold.enc) := HB.out.flat Hold.k HT.out i
  have hk3 : (i + 1) * 3 + ((l.drop i).flatMap Hold.enc).length ≤ cur.size := by rw [flat_len Hold.k, List.length_drop]; exact HS'.out
  have hk4 : ∀ v ∈ (l.drop i).flatMap Hold.enc, v.oneCell' = true := fun v hv => by obtain ⟨y, _, hy⟩ := List.mem_flatMap.1 hv; exact Hold.one y v hy
  have K1 := Lib.hid hk1
  have K2 := Lib.hid hk2
  have K3 := Lib.hid hk3
  have K4 := Lib.hid hk4
  clear hk1 hk2 hk3 hk4
  go_region_law ((refine step_copy_k rfl (.tmp 73) (.tmp 76) 31 31 rfl Try.underlying31 infoHold g ((i + 1) * 3) (l.length - i) (c - (i + 1)) g (i * 3) (l.length + 1 - i) (c - i) cur 62 ((l.drop i).flatMap Hold.enc) (by simp [Act.eval, Act.put]) (by simp [Act.eval, Act.put]) (l.length - i) (Nat.min_eq_right (by omega)) HB.out.drew K1.out K2.out K3.out K4.out ?_; intro w1 hB1 hg1))
  have HB1 := Lib.hid hB1
  have HV1 : Hid (Cells w1 vb 0 (Hold.enc x)) := Lib.hid (HV.out.drew.grown hg1 (by simp; exact hvb)).c3c
  have HG1 := Lib.hid hg1
  clear hB1 hg1
  have L1 := ins_room (x := x) Hold.k HT.out (Nat.le_of_lt hi) (by simpa using HS.out) rfl rfl
  have hk5 : i * 3 + (Hold.enc x).length ≤ (cur.toList.take ((i + 1) * 3) ++ (l.drop i).flatMap Hold.enc ++ cur.toList.drop ((i + 1) * 3 + ((l.drop i).flatMap Hold.enc).length)).toArray.size := by
    rw [List.size_toArray, L1.1, Hold.k, Array.length_toList]; have := HS.out; omega
  have K5 := Lib.hid hk5
  have HL := Lib.hid L1
  clear hk5 L1
  go_wp2_with ((refine wpl_copy_k rfl (.tmp 80) (.tmp 81) 31 31 rfl Try.underlying31 infoHold g (i * 3) (l.length + 1 - i) (c - i) vb 0 1 1 _ 62 (Hold.enc x) rfl rfl 1 (by simp only [Nat.min_def]; rw [if_pos (by omega)]) HB1.out rfl HV1.out K5.out (Hold.one x) ?_); intro w2 hB2 hg2)
  go_ret
  refine ⟨_, c, rfl, ?_, ?_, .inl rfl⟩
  · refine Own.of_blk Hold.k hB2 ?_ ?_ ?_ hcm2 hbg
    · have h1 := HL.out.2.1; have h2 := HC.out; simp only [List.size_toArray]; rw [← h2, ← Array.length_toList, ← h1]
    · have h1 := HL.out.2.2
      have h3 : (l.take i ++ x :: l.drop i).length = l.length + 1 := by simp; omega
      simp only [h3]; exact h1
    · simp; omega
  · exact ⟨hg2.os.trans HG1.out.os, hg2.tape.trans HG1.out.tape, hg2.output.trans HG1.out.output, Nat.le_trans HG1.out.size hg2.size, fun j hj hne => (hg2.block j (Nat.lt_of_lt_of_le hj HG1.out.size) hne).trans (HG1.out.block j hj hne)⟩
set_option maxHeartbeats 1000000 in
set_option maxRecDepth 100000 in
theorem insert_hold_grow (base : Nat) (s : Sl Hold) (i : Nat) (x : Hold) (vb g : Nat) (w : World) (hown : Own base 62 3 Hold.enc w s) (hA : s.A = some ⟨g, 0, none⟩) (hi : i < s.l.length) (hroom : s.c < s.l.length + 1)
    (hv : Blk w vb 62 #[.int .i64 x.st, .int .i64 x.u, .int .i64 x.s])
    (hb : (s.l.length + 1) * 24 ≤ 140737488355328) (hbase : base ≤ w.heap.size) :
    Calls Try.prog 64 #[.slice s.A s.l.length s.c, .int .i64 (i : Nat), .slice (some ⟨vb, 0, none⟩) 1 1] w fun e w' =>
      ∃ A c, e = .returned (.slice A (s.l.length + 1) c) ∧ Own base 62 3 Hold.enc w' ⟨A, c, s.l.take i ++ x :: s.l.drop i⟩ ∧ w.grownBy w' (Value.slice s.A s.l.length s.c).ownBlock ∧ (A = s.A ∨ A = some ⟨w.heap.size, 0, none⟩) := by
  obtain ⟨A, c, l⟩ := s
  simp only at hb hown hA hi hroom ⊢
  subst hA
  obtain ⟨cur, hB, hcs, htk, hlc, hcm2, hbg⟩ := hown.blk rfl
  simp only at hcs htk hlc
  have hn : l.length ≤ 5864062014806 := by omega
  have hcn : c = l.length := by omega
  subst hcn
  have hcl1 : ¬ l.length = i := by omega
  have hlt := hB.lt
  have hvlt := hv.lt
  have HB := Lib.hid hB
  have HV := Lib.hid hv
  have HT := Lib.hid htk
  have hk0 : ((l.take i).flatMap Hold.enc).length = i * 3 := by rw [flat_len Hold.k, List.length_take, Nat.min_eq_left (Nat.le_of_lt hi)]
  have K0 := Lib.hid hk0
  have hfit := Go.growslice_fits (need := l.length + 1) (old := l.length) (bytes := 24) (by omega) hb
  have KF := Lib.hid hfit
  have hik : (l.length : Int) + 1 - (i : Int) = ((l.length + 1 - i : Nat) : Int) := by omega
  have KI := Lib.hid hik
  clear hB hv hcs htk hown hk0 hfit hik
  go_enter Try.func64, Try.ntmps64
  go_wp2_with (first
    | (refine wpl_append_zeros rfl (.tmp 34) (.tmp 39) 31 3 rfl Try.underlying31 Try.underlying3 infoHold (by omega) g 0 i l.length (l.length + 1 - i) (l.length + 1) (by omega) ((l.take i).flatMap Hold.enc) rfl (by first | rfl | (rw [← KI.out]; rfl)) K0.out (HB.out.flat_take Hold.k HT.out i) (by omega) (by omega) (by omega) (by omega) (by rw [show i + (l.length + 1 - i) = l.length + 1 by omega]; exact KF.out) ?_
       intro w1 G cur1 h1 h2 h3 h4 h5 h6 h7
       have A1 := Lib.hid h3
       have A2 := Lib.hid h4
       have A3 := Lib.hid h5
       have A4 := Lib.hid h6
       have hG1 : ¬ G = i := by omega
       have hG2 : ¬ G = i + 1 := by omega
       have VE : Hid (Cells w1 vb 0 (Hold.enc x)) := Lib.hid (HV.out.grown h6 (by simp)).c3c
       have BE : Hid (Blk w1 g 62 cur) := Lib.hid (HB.out.grown h6 (by simp))
       have hk5 : i * 3 + (Hold.enc x).length ≤ cur1.size := by rw [h3, Hold.k]; omega
       have K5 := Lib.hid hk5
       clear h3 h4 h5 h6 hk5)
    | (refine wpl_copy_k rfl (.tmp 43) (.tmp 44) 31 31 rfl Try.underlying31 infoHold w.heap.size (i * 3) (l.length + 1 - i) (G - i) vb 0 1 1 cur1 62 (Hold.enc x) rfl rfl 1 (by simp only [Nat.min_def]; rw [if_pos (by omega)]) A3.out rfl VE.out K5.out (Hold.one x) ?_
       intro w2 hB2 hg2))
  have hcl3 : cur1.toList.length = G * 3 := by rw [Array.length_toList]; exact A1.out
  have L1 := ins_grow (x := x) Hold.k A2.out (Nat.le_of_lt hi) (by rw [hcl3]; exact Nat.mul_le_mul_right 3 h1) rfl rfl
  have hw1 : IntKind.i64.wrap ((i : Int) + 1) = (i : Int) + 1 := by rw [IntKind.wrap_i64]; omega
  have hb1 : (0 : Int) ≤ (i : Int) + 1 := by omega
  have htn : ((i : Int) + 1).toNat = i + 1 := by omega
  have hin : (i : Int) ≤ (l.length : Int) := by omega
  have hk1 : ((l.drop i).flatMap Hold.enc).length = (l.length - i) * 3 := by rw [flat_len Hold.k, List.length_drop]
  have hk2 : Cells w2 g (i * 3) ((l.drop i).flatMap Hold.enc) := (BE.out.grown hg2 (by simp; omega)).flat Hold.k HT.out i
  have hk3 : (i + 1) * 3 + ((l.drop i).flatMap Hold.enc).length ≤ (cur1.toList.take (i * 3) ++ Hold.enc x ++ cur1.toList.drop (i * 3 + (Hold.enc x).length)).toArray.size := by rw [List.size_toArray, L1.1, hcl3, hk1]; omega
  have hk4 : ∀ v ∈ (l.drop i).flatMap Hold.enc, v.oneCell' = true := fun v hv => by obtain ⟨y, _, hy⟩ := List.mem_flatMap.1 hv; exact Hold.one y v hy
  have M1 := Lib.hid hk1
  have M2 := Lib.hid hk2
  have M3 := Lib.hid hk3
  have M4 := Lib.hid hk4
  have HL := Lib.hid L1
  have B2 := Lib.hid hB2
  have G2 := Lib.hid hg2
  clear hk1 hk2 hk3 hk4 L1 hB2 hg2 hcl3
  go_region_law ((refine step_copy_k rfl (.tmp 50) (.tmp 53) 31 31 rfl Try.underlying31 infoHold w.heap.size ((i + 1) * 3) (l.length - i) (G - (i + 1)) g (i * 3) (l.length - i) (l.length - i) _ 62 ((l.drop i).flatMap Hold.enc) (by simp [Act.eval, Act.put]) (by simp [Act.eval, Act.put]) (l.length - i) (Nat.min_self _) B2.out.drew M1.out M2.out M3.out M4.out ?_); intro w3 hB3 hg3)
  have G3 := Lib.hid hg3
  have B3 := Lib.hid hB3
  clear hg3 hB3
  go_wp2_with fail
  go_ret
  refine ⟨_, G, rfl, ?_, ?_, .inr rfl⟩
  · refine Own.of_blk Hold.k B3.out ?_ ?_ ?_ h2 hbase
    · have h1 := HL.out.2.1; have h2 := A1.out; simp only [List.size_toArray, List.toList_toArray]; rw [← h2, ← Array.length_toList, ← h1]
    · have h1 := HL.out.2.2
      have h3 : (l.take i ++ x :: l.drop i).length = l.length + 1 := by simp; omega
      simp only [h3]; exact h1
    · simp; omega
  · have hsz1 : w.heap.size ≤ w1.heap.size := A4.out.size
    have hsz2 : w1.heap.size ≤ w2.heap.size := G2.out.size
    have g1 := A4.out
    have g2 := G2.out
    have g3 := G3.out
    exact ⟨g3.os.trans (g2.os.trans g1.os), g3.tape.trans (g2.tape.trans g1.tape), g3.output.trans (g2.output.trans g1.output), Nat.le_trans hsz1 (Nat.le_trans hsz2 g3.size), fun j hj hne =>
      (g3.block j (Nat.lt_of_lt_of_le hj (Nat.le_trans hsz1 hsz2)) (by simp; omega)).trans ((g2.block j (Nat.lt_of_lt_of_le hj hsz1) (by simp; omega)).trans (g1.block j hj (by simp)))⟩
theorem insert_hold (base : Nat) (s : Sl Hold) (i : Nat) (x : Hold) (vb : Nat) (w : World) (hown : Own base 62 3 Hold.enc w s) (hi : i ≤ s.l.length) (hv : Blk w vb 62 #[.int .i64 x.st, .int .i64 x.u, .int .i64 x.s])
    (hvb : ∀ g, s.A = some ⟨g, 0, none⟩ → vb ≠ g) (hb : (s.l.length + 1) * 24 ≤ 140737488355328) (hbase : base ≤ w.heap.size) :
    Calls Try.prog 64 #[.slice s.A s.l.length s.c, .int .i64 (i : Nat), .slice (some ⟨vb, 0, none⟩) 1 1] w fun e w' =>
      ∃ A c, e = .returned (.slice A (s.l.length + 1) c) ∧ Own base 62 3 Hold.enc w' ⟨A, c, s.l.take i ++ x :: s.l.drop i⟩ ∧ w.grownBy w' (Value.slice s.A s.l.length s.c).ownBlock ∧ (A = s.A ∨ A = some ⟨w.heap.size, 0, none⟩) := by
  rcases Nat.eq_or_lt_of_le hi with h | h
  · subst h
    rw [List.take_length, List.drop_length]
    exact insert_hold_end base s x vb w hown hv hb hbase
  · rcases hown.form with ⟨_, _, hl⟩ | ⟨g, hA, _, _, _, hcm⟩
    · rw [hl] at h; simp at h
    · rcases Nat.lt_or_ge s.c (s.l.length + 1) with hr | hr
      · exact insert_hold_grow base s i x vb g w hown hA h hr hv hb hbase
      · exact insert_hold_room base s i x vb g w hown hA h hr hv (hvb g hA) hb (by unfold maxLen at hcm; omega) hbase
end Go.Proofs.Ythnblhbdfpmolaa
