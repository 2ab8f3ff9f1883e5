/- Walk of the reference's Merge. -/
import Derived.Test.YthnblhbdfpmolaaMLatmxbg
import Derived.Test.YthnblhbdfpmolaaMLatmxak
import Derived.LoopN
namespace Go.Proofs.Ythnblhbdfpmolaa
open Go.RowKit
theorem rdTake {α : Type} {F : Nat → Prop} {k : Nat} {enc : α → List Value} {w : World} {A : Option Addr} {c : Nat} {l : List α} (h : Rd F k enc w ⟨A, c, l⟩) (q : Nat) : Rd F k enc w ⟨A, c, l.take q⟩ := by
  refine ⟨?_, h.2.1, h.2.2.1, fun i x hx => ?_⟩
  · have h1 := h.1
    simp only at h1 ⊢
    rw [List.length_take]; omega
  · simp only at hx
    have hlt := (List.getElem?_eq_some_iff.1 hx).1
    rw [List.length_take] at hlt
    rw [List.getElem?_take_of_lt (by omega)] at hx
    exact h.2.2.2 i x hx
theorem rdDrop {α : Type} {F : Nat → Prop} {k : Nat} {enc : α → List Value} {w : World} {b o c : Nat} {l : List α} (h : Rd F k enc w ⟨some ⟨b, o, none⟩, c, l⟩) {q : Nat} (hq : q ≤ l.length) {A : Option Addr} (hA : (if c = q then some (⟨b, o, none⟩ : Addr) else some ⟨b, o + q * k, none⟩) = A) : Rd F k enc w ⟨A, c - q, l.drop q⟩ := by
  have h1 := h.1
  have h2 := h.2.1
  simp only at h1 h2
  refine ⟨by simp only [List.length_drop]; omega, by simp only; omega, fun hn => ?_, fun i x hx => ?_⟩
  · simp only at hn; subst hn; split at hA <;> cases hA
  · simp only [List.getElem?_drop] at hx
    have hlt := (List.getElem?_eq_some_iff.1 hx).1
    rw [if_neg (by omega)] at hA
    obtain ⟨b', o', h3, h4, h5⟩ := h.2.2.2 (q + i) x hx
    simp only [Option.some.injEq, Addr.mk.injEq, and_true] at h3
    obtain ⟨rfl, rfl⟩ := h3
    refine ⟨b, o + q * k, hA.symm, h4, ?_⟩
    rw [Nat.add_mul, ← Nat.add_assoc] at h5
    exact h5
theorem ownTake {α : Type} {base g c : Nat} {e : TypeId} {k : Nat} {enc : α → List Value} {w : World} {l : List α} (hk : ∀ x, (enc x).length = k) (h : Own base e k enc w ⟨some ⟨g, 0, none⟩, c, l⟩) (q : Nat) (hq : q ≤ l.length) : Own base e k enc w ⟨some ⟨g, 0, none⟩, c, l.take q⟩ := by
  obtain ⟨cur, hB, hcs, htk, hlc, hcm, hbg⟩ := h.blk rfl
  simp only at hcs htk hlc hcm
  have hl : (l.take q).length = q := by rw [List.length_take]; omega
  refine Own.of_blk hk hB hcs ?_ (by rw [hl]; omega) hcm hbg
  rw [hl, ← flat_take hk, ← htk, List.take_take, Nat.min_eq_left (Nat.mul_le_mul_right _ hq)]
theorem insN_at {n : NoteD} : ∀ {l : List NoteD} {k : Nat}, k ≤ l.length → (∀ j, (hj : j < l.length) → j < k → lessN l[j] n = true) → (∀ (hk : k < l.length), lessN l[k] n = false) → insN n l = l.take k ++ n :: l.drop k
  | [], k, hk, _, _ => by simp at hk; subst hk; rfl
  | x :: l, 0, _, _, h2 => by
    unfold insN
    have h3 : lessN x n = false := h2 (by simp)
    rw [if_neg (by rw [h3]; simp)]; rfl
  | x :: l, k + 1, hk, h1, h2 => by
    unfold insN
    have h3 : lessN x n = true := h1 0 (by simp) (by omega)
    rw [if_pos h3, insN_at (l := l) (k := k) (by simpa using hk) (fun j hj hjk => h1 (j + 1) (by simpa using hj) (by omega)) (fun hk' => h2 (by simpa using hk'))]; rfl
def resR : Option (List NoteD) → List NoteD × Int
  | none => ([], 23)
  | some o => (o, 0)
/-- The results: a list and an error. -/
def RMergeP (w : World) (r : List NoteD × Int) (e : Ending) (w' : World) : Prop :=
  ∃ x : Sl Note, e = .returned (.tuple #[.slice x.A x.l.length x.c, .int .i64 r.2]) ∧ x.l.map Note.d = r.1 ∧ RdNotes (· < w'.heap.size) w' x ∧ Below w.heap.size w w'
theorem RMergeP.no {w w' : World} {r : List NoteD × Int} {E : Int} {e : Ending} (he : e = .returned (.tuple #[.slice none 0 0, .int .i64 E])) (hr : r = ([], E)) (hb : Below w.heap.size w w') : RMergeP w r e w' := by
  subst hr
  exact ⟨⟨none, 0, []⟩, he, rfl, ⟨Rd.nil _ _ _ _, fun n hn => by cases hn⟩, hb⟩
set_option maxHeartbeats 600000 in
theorem rmerge_no (s t : Sl Note) (w : World) (hs : RdNotes (· < w.heap.size) w s) (ht : RdNotes (· < w.heap.size) w t) (h : (notesR (s.l.map Note.d) && notesR (t.l.map Note.d)) = false) :
    Calls Try.prog 36 #[.slice s.A s.l.length s.c, .slice t.A t.l.length t.c] w fun e w' => RMergeP w (mergeN (s.l.map Note.d) (t.l.map Note.d)) e w' := by
  have hv : mergeN (s.l.map Note.d) (t.l.map Note.d) = ([], 1) := by unfold mergeN; rw [h]; rfl
  rw [hv]
  clear hv
  have HS := Lib.hid hs
  have HT := Lib.hid ht
  clear hs ht
  rcases h1 : notesR (s.l.map Note.d)
  · have H1 := Lib.hid h1
    clear h h1
    obtain ⟨sA, sc, sl⟩ := s
    obtain ⟨tA, tc, tl⟩ := t
    simp only
    go_enter Try.func36, Try.ntmps36
    go_wp2_with fail
    refine (rright41 ⟨sA, sc, sl⟩ w HS.out).mono ?_
    rintro e w1 ⟨rfl, hb1⟩
    rw [H1.out]
    go_wp2_with fail
    try simp only [Exit.inBlock, Exit.then]
    refine bodyPost_ret (v := .tuple #[.slice none 0 0, .int .i64 1]) ?_ rfl (RMergeP.no (E := 1) rfl rfl (by repeat (first | (with_reducible exact Below.refl _ _) | ((with_reducible refine below_setr ?_ ?_); focus (first | (simp; done) | (simp; omega) | omega)) | ((with_reducible refine below_allocr ?_ ?_); focus (first | (simp; done) | (simp; omega) | omega)) | (with_reducible refine Below.drew ?_) | (with_reducible refine below_drewN ?_ _) | ((with_reducible apply below_via); focus (with_reducible assumption)))))
    simp [results, Try.results36, go_sem, ]
  · have h2 : notesR (t.l.map Note.d) = false := by rw [h1] at h; exact h
    have H1 := Lib.hid h1
    have H2 := Lib.hid h2
    clear h h1 h2
    obtain ⟨sA, sc, sl⟩ := s
    obtain ⟨tA, tc, tl⟩ := t
    simp only
    go_enter Try.func36, Try.ntmps36
    go_wp2_with fail
    refine (rright41 ⟨sA, sc, sl⟩ w HS.out).mono ?_
    rintro e w1 ⟨rfl, hb1⟩
    rw [H1.out]
    go_wp2_with fail
    refine (rright41 ⟨tA, tc, tl⟩ w1 (HT.out.later hb1 (Nat.le_refl _))).mono ?_
    rintro e w2 ⟨rfl, hb2⟩
    rw [H2.out]
    go_wp2_with fail
    try simp only [Exit.inBlock, Exit.then]
    refine bodyPost_ret (v := .tuple #[.slice none 0 0, .int .i64 1]) ?_ rfl (RMergeP.no (E := 1) rfl rfl (by repeat (first | (with_reducible exact Below.refl _ _) | ((with_reducible refine below_setr ?_ ?_); focus (first | (simp; done) | (simp; omega) | omega)) | ((with_reducible refine below_allocr ?_ ?_); focus (first | (simp; done) | (simp; omega) | omega)) | (with_reducible refine Below.drew ?_) | (with_reducible refine below_drewN ?_ _) | ((with_reducible apply below_via); focus (with_reducible assumption)))))
    simp [results, Try.results36, go_sem, ]
/-- What the loop of the reference's Merge keeps. -/
structure RInv (w w3 wr : World) (all : List Note) (k : Nat) (OA : Option Addr) (OC : Nat) (ol : List Note) : Prop where
  own : Own w3.heap.size 61 5 Note.enc wr ⟨OA, OC, ol⟩
  bel : Below w3.heap.size w3 wr
  mem : ∀ n, n ∈ ol → n ∈ all
  fold : foldR [] (all.map Note.d) = foldR (ol.map Note.d) ((all.map Note.d).drop k)
  len : ol.length ≤ k
theorem find_idx {ol : List NoteD} {d q : Int} {j : Nat} (h : atN ol d q = some j) : ∃ hj : j < ol.length, ol.find? (isK d q) = some ol[j] := by
  unfold atN at h
  rw [List.findIdx?_eq_some_iff_getElem] at h
  obtain ⟨hj, hk, hno⟩ := h
  refine ⟨hj, ?_⟩
  rw [List.find?_eq_some_iff_getElem]
  exact ⟨hk, j, hj, rfl, fun i hi => by have := hno i hi; simpa using this⟩
theorem find_idx_no {ol : List NoteD} {d q : Int} (h : atN ol d q = none) : ol.find? (isK d q) = none := by
  unfold atN at h
  rw [List.findIdx?_eq_none_iff] at h
  rw [List.find?_eq_none]
  exact fun x hx => by rw [h x hx]; simp
section
variable {w w3 wr : World} {all : List Note} {k : Nat} {OA : Option Addr} {OC : Nat} {ol : List Note}
theorem RInv.below {w4 : World} (h : RInv w w3 wr all k OA OC ol) (hb : Below wr.heap.size wr w4) : RInv w w3 w4 all k OA OC ol where
  own := h.own.below hb
  bel := h.bel.trans (hb.mono h.bel.size)
  mem := h.mem
  fold := h.fold
  len := h.len
theorem RInv.skip {x o : NoteD} (h : RInv w w3 wr all k OA OC ol) (hfo : foldR [] (all.map Note.d) = foldR (ol.map Note.d) (x :: (all.map Note.d).drop (k + 1))) (hf : (ol.map Note.d).find? (isK x.dev x.seq) = some o) (hs : o.same x = true) : RInv w w3 wr all (k + 1) OA OC ol where
  own := h.own
  bel := h.bel
  mem := h.mem
  fold := by rw [hfo, foldR, hf]; simp [hs]
  len := Nat.le_succ_of_le h.len
theorem RInv.stop {x o : NoteD} (hfo : foldR [] (all.map Note.d) = foldR (ol.map Note.d) (x :: (all.map Note.d).drop (k + 1))) (hf : (ol.map Note.d).find? (isK x.dev x.seq) = some o) (hs : o.same x = false) : foldR [] (all.map Note.d) = none := by
  rw [hfo, foldR, hf]; simp [hs]
theorem RInv.add {w6 : World} {OA' : Option Addr} {OC' m : Nat} {x : Note} (h : RInv w w3 wr all k OA OC ol) (hown : Own w3.heap.size 61 5 Note.enc w6 ⟨OA', OC', ol.take m ++ ([x] ++ ol.drop m)⟩) (hbel : Below w3.heap.size w3 w6) (hx : x ∈ all)
    (hfo : foldR [] (all.map Note.d) = foldR (ol.map Note.d) (x.d :: (all.map Note.d).drop (k + 1))) (hf : (ol.map Note.d).find? (isK x.d.dev x.d.seq) = none) (hins : insN x.d (ol.map Note.d) = (ol.map Note.d).take m ++ x.d :: (ol.map Note.d).drop m) (hm : m ≤ ol.length) :
    RInv w w3 w6 all (k + 1) OA' OC' (ol.take m ++ ([x] ++ ol.drop m)) where
  own := hown
  bel := hbel
  mem n hn := by
    simp only [List.mem_append, List.mem_singleton] at hn
    rcases hn with hn | rfl | hn
    · exact h.mem n (List.mem_of_mem_take hn)
    · exact hx
    · exact h.mem n (List.mem_of_mem_drop hn)
  fold := by
    rw [hfo, foldR, hf]
    simp only [hins, List.map_append, List.map_take, List.map_drop, List.map_cons, List.map_nil, List.singleton_append]
  len := by simp only [List.length_append, List.length_take, List.length_drop, List.length_cons, List.length_nil]; have := h.len; omega
end
theorem kal {w : World} {p : Addr} {v : Value} (o : Obj) (h : w.cell? p = some v) : (w.alloc o).cell? p = some v := by rw [World.cell?_alloc_some w p o (by rw [h]; rfl), h]
theorem Own.lecap3 {α : Type} {base : Nat} {e : TypeId} {k : Nat} {enc : α → List Value} {w : World} {s : Sl α} (h : Own base e k enc w s) : s.l.length ≤ s.c := by
  rcases h.form with ⟨_, _, h⟩ | ⟨_, _, _, _, h, _⟩
  · rw [h]; exact Nat.zero_le _
  · exact h
set_option maxHeartbeats 1000000 in
theorem rmerge_yes (s t : Sl Note) (w : World) (hs : RdNotes (· < w.heap.size) w s) (ht : RdNotes (· < w.heap.size) w t) (h1 : notesR (s.l.map Note.d) = true) (h2 : notesR (t.l.map Note.d) = true) (hlen : s.l.length + t.l.length ≤ 10000) :
    Calls Try.prog 36 #[.slice s.A s.l.length s.c, .slice t.A t.l.length t.c] w fun e w' => RMergeP w (mergeN (s.l.map Note.d) (t.l.map Note.d)) e w' := by
  have hv : mergeN (s.l.map Note.d) (t.l.map Note.d) = resR (foldR [] ((s.l ++ t.l).map Note.d)) := by
    rw [mergeN_R, h1, h2, List.map_append]
    rcases foldR [] (List.map Note.d s.l ++ List.map Note.d t.l) with _ | o <;> rfl
  rw [hv]
  have HS := Lib.hid hs
  have HT := Lib.hid ht
  have H1 := Lib.hid h1
  have H2 := Lib.hid h2
  clear hs ht hv h1 h2
  obtain ⟨sA, sc, sl⟩ := s
  obtain ⟨tA, tc, tl⟩ := t
  simp only at hlen
  simp only
  go_enter Try.func36, Try.ntmps36
  go_wp2_with fail
  refine (rright41 ⟨sA, sc, sl⟩ w HS.out).mono ?_
  rintro e w1 ⟨rfl, hb1⟩
  rw [H1.out]
  go_wp2_with fail
  refine (rright41 ⟨tA, tc, tl⟩ w1 (HT.out.later hb1 (Nat.le_refl _))).mono ?_
  rintro e w2 ⟨rfl, hb2⟩
  rw [H2.out]
  have hB2 : Below w.heap.size w w2 := (by repeat (first | (with_reducible exact Below.refl _ _) | ((with_reducible refine below_setr ?_ ?_); focus (first | (simp; done) | (simp; omega) | omega)) | ((with_reducible refine below_allocr ?_ ?_); focus (first | (simp; done) | (simp; omega) | omega)) | (with_reducible refine Below.drew ?_) | (with_reducible refine below_drewN ?_ _) | ((with_reducible apply below_via); focus (with_reducible assumption))))
  have z2 : w.heap.size ≤ w2.heap.size := hB2.size
  clear hb1 hb2
  go_wp2_with (at_builtin; go_must (refine wpl_append_sl (base := w.heap.size) _ rfl (.tmp 19) (.tmp 20) _ rfl Try.underlying23 infoNote (by omega) Note.k Note.one ⟨some ⟨w2.heap.size, 0, none⟩, 0, []⟩ ⟨sA, sc, sl⟩ rfl rfl (Own.lit w2 #[] [] z2 (Nat.zero_le _) rfl Note.k) (HS.out.1.below' (by repeat (first | (with_reducible exact hB2) | (with_reducible exact Below.refl _ _) | ((with_reducible refine below_setr ?_ ?_); focus (first | (simp; done) | (simp; omega) | omega)) | ((with_reducible refine below_allocr ?_ ?_); focus (first | (simp; done) | (simp; omega) | omega)) | (with_reducible refine Below.drew ?_) | (with_reducible refine below_drewN ?_ _))) (Nat.le_refl _)) (by simp [maxLen]; omega) (by simp; omega) (by simp; omega) ?_); intro A3 c3 w3 hown3 hg3 hat3; apply Hid.out)
  refine Lib.hid ?_
  simp only [List.nil_append] at hown3
  have hB3 : Below w.heap.size w w3 := Below.grown (hB2.alloc z2 _) hg3 (by simp; omega) (by simp [Value.ownBlock]; omega)
  have HO3 := Lib.hid hown3
  clear hown3 hg3 hat3
  go_wp2_with (at_builtin; go_must (refine wpl_append_sl (base := w.heap.size) _ rfl (.tmp 21) (.tmp 22) _ rfl Try.underlying23 infoNote (by omega) Note.k Note.one ⟨A3, c3, sl⟩ ⟨tA, tc, tl⟩ rfl rfl HO3.out (HT.out.1.below' hB3 (Nat.le_refl _)) (by simp [maxLen]; omega) (by simp; omega) hB3.size ?_); intro A4 c4 w4 hown4 hg4 hat4; apply Hid.out)
  refine Lib.hid ?_
  have hB4 : Below w.heap.size w w4 := Below.grown hB3 hg4 hB3.size (by
    intro q hq
    rcases HO3.out.form with ⟨hA, _⟩ | ⟨g, hA, h1, _⟩
    · simp only at hA; subst hA; cases hq
    · simp only at hA; subst hA; simp only [Value.ownBlock, Option.some.injEq] at hq; omega)
  have hROW := (hown4.rd Note.k).mono (G := fun b => b < w4.heap.size) (fun b hb => hb.2)
  have hAF : ∀ n, n ∈ sl ++ tl → Rd (· < w.heap.size) 1 ienc w n.af := fun n hn => by
    rcases List.mem_append.1 hn with hn | hn
    · exact HS.out.2 n hn
    · exact HT.out.2 n hn
  have hlL : (sl ++ tl).length ≤ 10000 := by simpa using hlen
  have ROW := Lib.hid hROW
  have AFS := Lib.hid hAF
  clear hown4 hg4 hat4 HO3 hROW hAF hlen HS HT H1 H2
  have hLL : (sl ++ tl).length = sl.length + tl.length := List.length_append
  have HLL := Lib.hid hLL
  clear hLL
  generalize heq : sl ++ tl = all at *
  have HEQ := Lib.hid heq
  clear heq
  go_wp2_with fail
  go_loopw [7, 8] (fun o i wr => ∃ (k : Nat) (OA : Option Addr) (OC : Nat) (ol : List Note), k ≤ all.length ∧ o = .slice OA ol.length OC ∧ i = .int .i64 k ∧ RInv w w4 wr all k OA OC ol) (fun _ i _ => all.length - (intOf i).toNat)
  case atStart => exact ⟨0, none, 0, [], by omega, rfl, rfl, Own.nil _ _ _ _ _, Below.refl _ _, fun n hn => (by cases hn), by simp, Nat.le_refl _⟩
  case round =>
    obtain ⟨k, OA, OC, ol, hk, rfl, rfl, hI⟩ := hrel
    by_cases hlt : k < all.length
    · have hlt2 : (k : Int) < (sl.length : Int) + (tl.length : Int) := by have := HLL.out; omega
      have hlt3 : k < sl.length + tl.length := by have := HLL.out; omega
      obtain ⟨b, o, rfl, hb, hcl⟩ := ROW.out.at1 hlt
      obtain ⟨g0, g1, g2, g3, g4⟩ := Cells.c5 (hcl.keep (hI.bel.block b hb))
      have hxm : all[k] ∈ all := List.getElem_mem hlt
      have hd : (all.map Note.d).drop k = all[k].d :: (all.map Note.d).drop (k + 1) := by rw [List.drop_eq_getElem_cons (by simpa using hlt)]; simp
      have hfold := hI.fold
      rw [hd] at hfold
      have HCL0 := Lib.hid hcl
      clear hcl hd
      generalize all[k] = x at *
      obtain ⟨xd, xq, ⟨xA, xc, xl⟩, xt, xx⟩ := x
      have HXM := Lib.hid hxm
      have HI := Lib.hid hI
      have HFO := Lib.hid hfold
      clear hI hfold hxm
      have hrd := (HI.out.own.rd Note.k).mono (G := fun b => b < wr.heap.size) (fun b hb => hb.2)
      have HRD := Lib.hid hrd
      have hAt : Calls Try.prog 84 #[.slice OA ol.length OC, .int .i64 xd, .int .i64 xq] wr.drew fun e w' => e = .returned (.int .i64 (oi (atN (ol.map Note.d) xd xq))) ∧ wr.drew = w' := rAt ⟨OA, OC, ol⟩ xd xq wr.drew hrd
      clear hrd
      rcases hat : atN (ol.map Note.d) xd xq with _ | j
      · rw [hat] at hAt
        simp only [oi] at hAt
        have HAT := Lib.hid (find_idx_no hat)
        clear hat
        go_wp2_with fail
        refine wp_region_T (fun w' => w'.cell? ⟨b, o + k * 5, none⟩ = some (.int .i64 xd) ∧ w'.cell? ⟨b, o + k * 5 + 1, none⟩ = some (.int .i64 xq)) (fun _ => false) (by kernel_rfl) ⟨g0, g1⟩ (fun hHeld => ?_)
        refine wpAnyT_take2 (i := 0) (v := ?_) rfl rfl (by kernel_rfl) (by kernel_rfl) (by kernel_rfl) (by kernel_rfl) (fun _ _ _ h => h) (Or.inl ⟨by rfl, ?_⟩) (by first | assumption | trivial) ?_
        rotate_left
        · (intro w hSw; (try dsimp only at hSw); go_simp) <;> (with_reducible rfl)
        simp only [List.setIfInBounds_toArray, List.set_cons_zero, List.set_cons_succ]
        refine wpAnyT_take2 (i := 1) (v := ?_) rfl rfl (by kernel_rfl) (by kernel_rfl) (by kernel_rfl) (by kernel_rfl) (fun _ _ _ h => h) (Or.inl ⟨by rfl, ?_⟩) (by first | assumption | trivial) ?_
        rotate_left
        · (intro w hSw; (try dsimp only at hSw); go_simp) <;> (with_reducible rfl)
        simp only [List.setIfInBounds_toArray, List.set_cons_zero, List.set_cons_succ]
        refine wpAnyT_take2 (i := 2) (v := ?_) rfl rfl (by kernel_rfl) (by kernel_rfl) (by kernel_rfl) (by kernel_rfl) (fun _ _ _ h => h) (Or.inl ⟨by rfl, ?_⟩) (by first | assumption | trivial) ?_
        rotate_left
        · (intro w hSw; (try dsimp only at hSw); go_simp) <;> (with_reducible rfl)
        simp only [List.setIfInBounds_toArray, List.set_cons_zero, List.set_cons_succ]
        refine wpAnyT_take2 (i := 3) (v := ?_) rfl rfl (by kernel_rfl) (by kernel_rfl) (by kernel_rfl) (by kernel_rfl) (fun _ _ _ h => h) (Or.inl ⟨by rfl, ?_⟩) (by first | assumption | trivial) ?_
        rotate_left
        · (intro w hSw; (try dsimp only at hSw); go_simp) <;> (with_reducible rfl)
        simp only [List.setIfInBounds_toArray, List.set_cons_zero, List.set_cons_succ]
        refine wpAnyT_take2 (i := 4) (v := ?_) rfl rfl (by kernel_rfl) (by kernel_rfl) (by kernel_rfl) (by kernel_rfl) (fun _ _ _ h => h) (Or.inl ⟨by rfl, ?_⟩) (by first | assumption | trivial) ?_
        rotate_left
        · (intro w hSw; (try dsimp only at hSw); go_simp) <;> (with_reducible rfl)
        simp only [List.setIfInBounds_toArray, List.set_cons_zero, List.set_cons_succ]
        refine wpAnyT_take2 (i := 5) (v := ?_) rfl rfl (by kernel_rfl) (by kernel_rfl) (by kernel_rfl) (by kernel_rfl) (fun _ _ _ h => h) (Or.inl ⟨by rfl, ?_⟩) (by first | assumption | trivial) ?_
        rotate_left
        · (intro w hSw; (try dsimp only at hSw); go_simp) <;> (with_reducible rfl)
        simp only [List.setIfInBounds_toArray, List.set_cons_zero, List.set_cons_succ]
        refine wpAnyT_take2 (i := 6) (v := ?_) rfl rfl (by kernel_rfl) (by kernel_rfl) (by kernel_rfl) (by kernel_rfl) (fun _ _ _ h => h) (Or.inl ⟨by rfl, ?_⟩) (by first | assumption | trivial) ?_
        rotate_left
        · (intro w hSw; (try dsimp only at hSw); go_simp) <;> (with_reducible rfl)
        simp only [List.setIfInBounds_toArray, List.set_cons_zero, List.set_cons_succ]
        refine wpAnyT_take2 (i := 7) (v := ?_) rfl rfl (by kernel_rfl) (by kernel_rfl) (by kernel_rfl) (by kernel_rfl) (fun _ _ _ h => h) (Or.inl ⟨by rfl, ?_⟩) (by first | assumption | trivial) ?_
        rotate_left
        · (intro w hSw; (try dsimp only at hSw); go_simp) <;> (with_reducible rfl)
        simp only [List.setIfInBounds_toArray, List.set_cons_zero, List.set_cons_succ]
        refine wpAnyT_take2 (i := 8) (v := ?_) rfl rfl (by kernel_rfl) (by kernel_rfl) (by kernel_rfl) (by kernel_rfl) (fun _ _ _ h => h) (Or.inl ⟨by rfl, ?_⟩) (by first | assumption | trivial) ?_
        rotate_left
        · (intro w hSw; (try dsimp only at hSw); go_simp) <;> (with_reducible rfl)
        simp only [List.setIfInBounds_toArray, List.set_cons_zero, List.set_cons_succ]
        refine wpAnyT_take2 (i := 9) (v := ?_) rfl rfl (by kernel_rfl) (by kernel_rfl) (by kernel_rfl) (by kernel_rfl) (fun _ _ _ h => h) (Or.inl ⟨by rfl, ?_⟩) (by first | assumption | trivial) ?_
        rotate_left
        · (intro w hSw; (try dsimp only at hSw); go_simp) <;> (with_reducible rfl)
        simp only [List.setIfInBounds_toArray, List.set_cons_zero, List.set_cons_succ]
        refine wpAnyT_take2 (i := 10) (v := ?_) rfl rfl (by kernel_rfl) (by kernel_rfl) (by kernel_rfl) (by kernel_rfl) (fun _ _ _ h => h) (Or.inl ⟨by rfl, ?_⟩) (by first | assumption | trivial) ?_
        rotate_left
        · (intro w hSw; (try dsimp only at hSw); go_simp) <;> (with_reducible rfl)
        simp only [List.setIfInBounds_toArray, List.set_cons_zero, List.set_cons_succ]
        refine wpAnyT_next (i := 11) (by kernel_rfl) rfl ?_
        go_wp2_with fail
        refine hAt.mono ?_
        rintro e w5 ⟨rfl, rfl⟩
        clear hAt
        go_wp2_with fail
        refine ⟨(by first | exact hHeld | exact fun _ => hHeld), ?_⟩
        refine wpAnyT_take2 (i := 12) (v := ?_) rfl rfl (by kernel_rfl) (by kernel_rfl) (by kernel_rfl) (by kernel_rfl) (fun _ _ _ h => h) (Or.inl ⟨by rfl, ?_⟩) (by first | assumption | trivial) ?_
        rotate_left
        · (intro w hSw; (try dsimp only at hSw); go_simp) <;> (with_reducible rfl)
        simp only [List.setIfInBounds_toArray, List.set_cons_zero, List.set_cons_succ]
        refine wpAnyT_done (by kernel_rfl) ?_ _
        clear hHeld
        go_wp2_with fail
        have hcl2 : Cells w4 b (o + k * 5) (Note.enc ⟨xd, xq, ⟨xA, xc, xl⟩, xt, xx⟩) := HCL0.out
        have HCL := Lib.hid hcl2
        clear hcl2 g0 g1 g2 g3 g4
        have HO := Lib.hid HI.out.own.form
        obtain ⟨wo, hwo⟩ : ∃ x, x = wr := ⟨_, rfl⟩
        subst hwo
        rcases HO.out with ⟨hA, hC, hl⟩ | ⟨g, hA, hg1, hg2, _, hcm⟩
        · simp only at hA hC hl
          subst hA hC hl
          obtain ⟨g0, g1, g2, g3, g4⟩ := Cells.c5 (HCL.out.keep (HI.out.bel.block b hb))
          have hins : insN (Note.d ⟨xd, xq, ⟨xA, xc, xl⟩, xt, xx⟩) (([] : List Note).map Note.d) = ((([] : List Note).map Note.d).take 0) ++ (Note.d ⟨xd, xq, ⟨xA, xc, xl⟩, xt, xx⟩) :: (([] : List Note).map Note.d).drop 0 := rfl
          have HINS := Lib.hid (fun (x6 : World) (A6 : Option Addr) (c6 : Nat) (h1 : Own w4.heap.size 61 5 Note.enc x6 ⟨A6, c6, [⟨xd, xq, ⟨xA, xc, xl⟩, xt, xx⟩]⟩) (h2 : Below w4.heap.size w4 x6) => RInv.add (x := ⟨xd, xq, ⟨xA, xc, xl⟩, xt, xx⟩) (m := 0) HI.out h1 h2 HXM.out HFO.out HAT.out hins (Nat.zero_le _))
          clear hins
          refine wp_loop_rounds 1 ?_
          rw [rounds_succ]
          go_wp2_with fail
          refine wp_region_T (fun _ => True) (fun _ => false) (by kernel_rfl) trivial (fun hHeld => ?_)
          refine wpAnyT_take2 (i := 0) (v := ?_) rfl rfl (by kernel_rfl) (by kernel_rfl) (by kernel_rfl) (by kernel_rfl) (fun _ _ _ h => h) (Or.inl ⟨by rfl, ?_⟩) (by first | assumption | trivial) ?_
          rotate_left
          · (intro w hSw; (try dsimp only at hSw); go_simp) <;> (with_reducible rfl)
          simp only [List.setIfInBounds_toArray, List.set_cons_zero, List.set_cons_succ]
          refine wpAnyT_take2 (i := 1) (v := ?_) rfl rfl (by kernel_rfl) (by kernel_rfl) (by kernel_rfl) (by kernel_rfl) (fun _ _ _ h => h) (Or.inl ⟨by rfl, ?_⟩) (by first | assumption | trivial) ?_
          rotate_left
          · (intro w hSw; (try dsimp only at hSw); go_simp) <;> (with_reducible rfl)
          simp only [List.setIfInBounds_toArray, List.set_cons_zero, List.set_cons_succ]
          refine wpAnyT_take2 (i := 2) (v := ?_) rfl rfl (by kernel_rfl) (by kernel_rfl) (by kernel_rfl) (by kernel_rfl) (fun _ _ _ h => h) (Or.inl ⟨by rfl, ?_⟩) (by first | assumption | trivial) ?_
          rotate_left
          · (intro w hSw; (try dsimp only at hSw); go_simp) <;> (with_reducible rfl)
          simp only [List.setIfInBounds_toArray, List.set_cons_zero, List.set_cons_succ]
          refine wpAnyT_take2 (i := 3) (v := ?_) rfl rfl (by kernel_rfl) (by kernel_rfl) (by kernel_rfl) (by kernel_rfl) (fun _ _ _ h => h) (Or.inl ⟨by rfl, ?_⟩) (by first | assumption | trivial) ?_
          rotate_left
          · (intro w hSw; (try dsimp only at hSw); go_simp) <;> (with_reducible rfl)
          simp only [List.setIfInBounds_toArray, List.set_cons_zero, List.set_cons_succ]
          refine wpAnyT_take2 (i := 4) (v := ?_) rfl rfl (by kernel_rfl) (by kernel_rfl) (by kernel_rfl) (by kernel_rfl) (fun _ _ _ h => h) (Or.inl ⟨by rfl, ?_⟩) (by first | assumption | trivial) ?_
          rotate_left
          · (intro w hSw; (try dsimp only at hSw); go_simp) <;> (with_reducible rfl)
          simp only [List.setIfInBounds_toArray, List.set_cons_zero, List.set_cons_succ]
          refine wpAnyT_take2 (i := 5) (v := undef) rfl rfl (by kernel_rfl) (by kernel_rfl) (by kernel_rfl) (by kernel_rfl) (fun _ _ _ h => h) (Or.inr ⟨by rfl, rfl⟩) (by first | assumption | trivial) ?_
          simp only [List.setIfInBounds_toArray, List.set_cons_zero, List.set_cons_succ]
          refine wpAnyT_take2 (i := 6) (v := undef) rfl rfl (by kernel_rfl) (by kernel_rfl) (by kernel_rfl) (by kernel_rfl) (fun _ _ _ h => h) (Or.inr ⟨by rfl, rfl⟩) (by first | assumption | trivial) ?_
          simp only [List.setIfInBounds_toArray, List.set_cons_zero, List.set_cons_succ]
          refine wpAnyT_take2 (i := 7) (v := undef) rfl rfl (by kernel_rfl) (by kernel_rfl) (by kernel_rfl) (by kernel_rfl) (fun _ _ _ h => h) (Or.inr ⟨by rfl, rfl⟩) (by first | assumption | trivial) ?_
          simp only [List.setIfInBounds_toArray, List.set_cons_zero, List.set_cons_succ]
          refine wpAnyT_take2 (i := 8) (v := undef) rfl rfl (by kernel_rfl) (by kernel_rfl) (by kernel_rfl) (by kernel_rfl) (fun _ _ _ h => h) (Or.inr ⟨by rfl, rfl⟩) (by first | assumption | trivial) ?_
          simp only [List.setIfInBounds_toArray, List.set_cons_zero, List.set_cons_succ]
          refine wpAnyT_take2 (i := 9) (v := undef) rfl rfl (by kernel_rfl) (by kernel_rfl) (by kernel_rfl) (by kernel_rfl) (fun _ _ _ h => h) (Or.inr ⟨by rfl, rfl⟩) (by first | assumption | trivial) ?_
          simp only [List.setIfInBounds_toArray, List.set_cons_zero, List.set_cons_succ]
          refine wpAnyT_take2 (i := 10) (v := undef) rfl rfl (by kernel_rfl) (by kernel_rfl) (by kernel_rfl) (by kernel_rfl) (fun _ _ _ h => h) (Or.inr ⟨by rfl, rfl⟩) (by first | assumption | trivial) ?_
          simp only [List.setIfInBounds_toArray, List.set_cons_zero, List.set_cons_succ]
          refine wpAnyT_take2 (i := 11) (v := undef) rfl rfl (by kernel_rfl) (by kernel_rfl) (by kernel_rfl) (by kernel_rfl) (fun _ _ _ h => h) (Or.inr ⟨by rfl, rfl⟩) (by first | assumption | trivial) ?_
          simp only [List.setIfInBounds_toArray, List.set_cons_zero, List.set_cons_succ]
          refine wpAnyT_take2 (i := 12) (v := undef) rfl rfl (by kernel_rfl) (by kernel_rfl) (by kernel_rfl) (by kernel_rfl) (fun _ _ _ h => h) (Or.inr ⟨by rfl, rfl⟩) (by first | assumption | trivial) ?_
          simp only [List.setIfInBounds_toArray, List.set_cons_zero, List.set_cons_succ]
          refine wpAnyT_take2 (i := 13) (v := undef) rfl rfl (by kernel_rfl) (by kernel_rfl) (by kernel_rfl) (by kernel_rfl) (fun _ _ _ h => h) (Or.inr ⟨by rfl, rfl⟩) (by first | assumption | trivial) ?_
          simp only [List.setIfInBounds_toArray, List.set_cons_zero, List.set_cons_succ]
          refine wpAnyT_take2 (i := 14) (v := ?_) rfl rfl (by kernel_rfl) (by kernel_rfl) (by kernel_rfl) (by kernel_rfl) (fun _ _ _ h => h) (Or.inl ⟨by rfl, ?_⟩) (by first | assumption | trivial) ?_
          rotate_left
          · (intro w hSw; (try dsimp only at hSw); go_simp) <;> (with_reducible rfl)
          simp only [List.setIfInBounds_toArray, List.set_cons_zero, List.set_cons_succ]
          refine wpAnyT_done (by kernel_rfl) ?_ _
          clear hHeld
          go_wp2_with fail
          refine wp_region_T (fun w' => (w'.cell? ⟨b, o + k * 5, none⟩ = some (.int .i64 xd) ∧ w'.cell? ⟨b, o + k * 5 + 1, none⟩ = some (.int .i64 xq) ∧ w'.cell? ⟨b, o + k * 5 + 2, none⟩ = some (.slice xA xl.length xc) ∧ w'.cell? ⟨b, o + k * 5 + 3, none⟩ = some (.int .i64 xt) ∧ w'.cell? ⟨b, o + k * 5 + 4, none⟩ = some (.string xx))) (fun _ => false) (by kernel_rfl) ⟨g0, g1, g2, g3, g4⟩ (fun hHeld => ?_)
          refine wpAnyT_take2 (i := 0) (v := ?_) rfl rfl (by kernel_rfl) (by kernel_rfl) (by kernel_rfl) (by kernel_rfl) (fun _ _ _ h => h) (Or.inl ⟨by rfl, ?_⟩) (by first | assumption | trivial) ?_
          rotate_left
          · (intro w hSw; (try dsimp only at hSw); go_simp) <;> (with_reducible rfl)
          simp only [List.setIfInBounds_toArray, List.set_cons_zero, List.set_cons_succ]
          refine wpAnyT_take2 (i := 1) (v := ?_) rfl rfl (by kernel_rfl) (by kernel_rfl) (by kernel_rfl) (by kernel_rfl) (fun _ _ _ h => h) (Or.inl ⟨by rfl, ?_⟩) (by first | assumption | trivial) ?_
          rotate_left
          · (intro w hSw; (try dsimp only at hSw); go_simp) <;> (with_reducible rfl)
          simp only [List.setIfInBounds_toArray, List.set_cons_zero, List.set_cons_succ]
          refine wpAnyT_take2 (i := 2) (v := ?_) rfl rfl (by kernel_rfl) (by kernel_rfl) (by kernel_rfl) (by kernel_rfl) (fun _ _ _ h => h) (Or.inl ⟨by rfl, ?_⟩) (by first | assumption | trivial) ?_
          rotate_left
          · (intro w hSw; (try dsimp only at hSw); go_simp) <;> (with_reducible rfl)
          simp only [List.setIfInBounds_toArray, List.set_cons_zero, List.set_cons_succ]
          refine wpAnyT_take2 (i := 3) (v := ?_) rfl rfl (by kernel_rfl) (by kernel_rfl) (by kernel_rfl) (by kernel_rfl) (fun _ _ _ h => h) (Or.inl ⟨by rfl, ?_⟩) (by first | assumption | trivial) ?_
          rotate_left
          · (intro w hSw; (try dsimp only at hSw); go_simp) <;> (with_reducible rfl)
          simp only [List.setIfInBounds_toArray, List.set_cons_zero, List.set_cons_succ]
          refine wpAnyT_take2 (i := 5) (v := ?_) rfl rfl (by kernel_rfl) (by kernel_rfl) (by kernel_rfl) (by kernel_rfl) (fun _ _ _ h => h) (Or.inl ⟨by rfl, ?_⟩) (by first | assumption | trivial) ?_
          rotate_left
          · (intro w hSw; (try dsimp only at hSw); go_simp) <;> (with_reducible rfl)
          simp only [List.setIfInBounds_toArray, List.set_cons_zero, List.set_cons_succ]
          refine wpAnyT_take2 (i := 6) (v := ?_) rfl rfl (by kernel_rfl) (by kernel_rfl) (by kernel_rfl) (by kernel_rfl) (fun _ _ _ h => h) (Or.inl ⟨by rfl, ?_⟩) (by first | assumption | trivial) ?_
          rotate_left
          · (intro w hSw; (try dsimp only at hSw); go_simp) <;> (with_reducible rfl)
          simp only [List.setIfInBounds_toArray, List.set_cons_zero, List.set_cons_succ]
          refine wpAnyT_take2 (i := 7) (v := ?_) rfl rfl (by kernel_rfl) (by kernel_rfl) (by kernel_rfl) (by kernel_rfl) (fun _ _ _ h => h) (Or.inl ⟨by rfl, ?_⟩) (by first | assumption | trivial) ?_
          rotate_left
          · (intro w hSw; (try dsimp only at hSw); go_simp) <;> (with_reducible rfl)
          simp only [List.setIfInBounds_toArray, List.set_cons_zero, List.set_cons_succ]
          clear hHeld
          refine wpAnyT_next (i := 4) (by kernel_rfl) rfl ?_
          go_wp2_with fail
          refine ⟨(by first | exact ⟨kal _ g0, kal _ g1, kal _ g2, kal _ g3, kal _ g4⟩ | exact fun _ => ⟨kal _ g0, kal _ g1, kal _ g2, kal _ g3, kal _ g4⟩), ?_⟩
          refine wpAnyT_next (i := 8) (by kernel_rfl) rfl ?_
          refine wpl_append_sl (base := wo.heap.size) _ rfl (.tmp 75) (.tmp 78) _ rfl Try.underlying23 infoNote (by omega) Note.k Note.one ⟨some ⟨wo.heap.size, 0, none⟩, 1, [⟨xd, xq, ⟨xA, xc, xl⟩, xt, xx⟩]⟩ ⟨none, 0, []⟩ rfl rfl (Own.lit (base := wo.heap.size) wo.drew _ [⟨xd, xq, ⟨xA, xc, xl⟩, xt, xx⟩] (Nat.le_refl _) (by simp [maxLen]) rfl Note.k) (Rd.nil (fun _ => True) _ _ _) (by simp [maxLen]) (by simp) (by simp) ?_
          intro A5 c5 w5 hown5 hg5 hat5
          have hB5 : Below wo.heap.size wo w5 := Below.grown (B := wo.heap.size) (a := wo) (by repeat (first | (with_reducible exact Below.refl _ _) | ((with_reducible refine below_setr ?_ ?_); focus (first | (simp; done) | (simp; omega) | omega)) | ((with_reducible refine below_allocr ?_ ?_); focus (first | (simp; done) | (simp; omega) | omega)) | (with_reducible refine Below.drew ?_) | (with_reducible refine below_drewN ?_ _))) hg5 (by first | (simp; done) | (simp; omega)) (by simp [Value.ownBlock])
          have HO5 := Lib.hid hown5
          clear hown5 hg5 hat5
          go_wp2_with fail
          refine ⟨(by first | exact ⟨keep_cell hB5 g0, keep_cell hB5 g1, keep_cell hB5 g2, keep_cell hB5 g3, keep_cell hB5 g4⟩ | exact fun _ => ⟨keep_cell hB5 g0, keep_cell hB5 g1, keep_cell hB5 g2, keep_cell hB5 g3, keep_cell hB5 g4⟩), ?_⟩
          have hHeld := And.intro (keep_cell hB5 g0) (And.intro (keep_cell hB5 g1) (And.intro (keep_cell hB5 g2) (And.intro (keep_cell hB5 g3) (keep_cell hB5 g4))))
          refine wpAnyT_take2 (i := 9) (v := ?_) rfl rfl (by kernel_rfl) (by kernel_rfl) (by kernel_rfl) (by kernel_rfl) (fun _ _ _ h => h) (Or.inl ⟨by rfl, ?_⟩) (by first | assumption | trivial) ?_
          rotate_left
          · (intro w hSw; (try dsimp only at hSw); go_simp) <;> (with_reducible rfl)
          simp only [List.setIfInBounds_toArray, List.set_cons_zero, List.set_cons_succ]
          refine wpAnyT_done (by kernel_rfl) ?_ _
          clear hHeld g0 g1 g2 g3 g4
          have hBW5 : Below w4.heap.size w4 w5 := HI.out.bel.trans (hB5.mono HI.out.bel.size)
          go_wp2_with (at_builtin; go_must (refine wpl_append_sl (base := w4.heap.size) _ rfl (.tmp 82) (.tmp 83) _ rfl Try.underlying23 infoNote (by omega) Note.k Note.one ⟨none, 0, []⟩ ⟨A5, c5, [⟨xd, xq, ⟨xA, xc, xl⟩, xt, xx⟩] ++ []⟩ rfl rfl (Own.nil _ _ _ _ _) ((HO5.out.rd Note.k).mono (G := fun b => b < w5.heap.size) (fun b hb => hb.2)) (by simp [maxLen]) (by simp) hBW5.size ?_); intro A6 c6 w6 hown6 hg6 hat6; apply Hid.out)
          refine Lib.hid ?_
          have hB6 : Below w4.heap.size w4 w6 := Below.grown hBW5 hg6 hBW5.size (by simp [Value.ownBlock])
          have hfin : RInv w w4 w6 all (k + 1) A6 c6 [⟨xd, xq, ⟨xA, xc, xl⟩, xt, xx⟩] := HINS.out w6 A6 c6 hown6 hB6
          have HFIN := Lib.hid hfin
          clear hown6 hg6 hat6 hfin
          go_wp2_with fail
          go_roundw
          case rel => exact ⟨k + 1, A6, c6, _, by omega, by simp [Act.eval, go_sem], by go_num, HFIN.out⟩
          case measure => simp [intOf]; omega
        · simp only at hA
          subst hA
          go_loopw [9] (fun i wr => ∃ (m : Nat), m ≤ ol.length ∧ i = .int .i64 m ∧ Below wo.heap.size wo wr ∧ (∀ j y, j < m → ol[j]? = some y → lessN y.d (Note.d ⟨xd, xq, ⟨xA, xc, xl⟩, xt, xx⟩) = true)) (fun i _ => ol.length - (intOf i).toNat)
          case atStart => exact ⟨0, by omega, rfl, (by repeat (first | (with_reducible exact Below.refl _ _) | ((with_reducible refine below_setr ?_ ?_); focus (first | (simp; done) | (simp; omega) | omega)) | ((with_reducible refine below_allocr ?_ ?_); focus (first | (simp; done) | (simp; omega) | omega)) | (with_reducible refine Below.drew ?_) | (with_reducible refine below_drewN ?_ _))), fun j y hj => absurd hj (Nat.not_lt_zero _)⟩
          case round =>
            obtain ⟨m, hmo, rfl, hbi, hless⟩ := hrel
            have HLESS := Lib.hid hless
            clear hless
            by_cases hml : m < ol.length
            · have hOW2 : Own w4.heap.size 61 5 Note.enc wr ⟨some ⟨g, 0, none⟩, OC, ol⟩ := HI.out.own.below hbi
              have hym : ol[m]? = some ol[m] := List.getElem?_eq_getElem hml
              obtain ⟨g', hA', _, _, hcy, _⟩ := hOW2.atk Note.k hym
              simp only [Option.some.injEq, Addr.mk.injEq, and_true] at hA'
              subst hA'
              obtain ⟨j0, j1, j2, j3, j4⟩ := Cells.c5 hcy
              obtain ⟨g0, g1, g2, g3, g4⟩ := Cells.c5 (HCL.out.keep ((HI.out.bel.trans (hbi.mono HI.out.bel.size)).block b hb))
              generalize ol[m] = y at *
              obtain ⟨yd, yq, ⟨yA, yc, yl⟩, yt, yx⟩ := y
              have HYM := Lib.hid hym
              have hml' : (m : Int) < (ol.length : Int) := by omega
              have hlo2 : ol.length ≤ 10000 := by have := HI.out.len; omega
              clear hOW2 hcy hym
              go_wp2_with fail
              refine wp_region_T (fun w' => (w'.cell? ⟨g, m * 5, none⟩ = some (.int .i64 yd) ∧ w'.cell? ⟨g, m * 5 + 1, none⟩ = some (.int .i64 yq) ∧ w'.cell? ⟨g, m * 5 + 2, none⟩ = some (.slice yA yl.length yc) ∧ w'.cell? ⟨g, m * 5 + 3, none⟩ = some (.int .i64 yt) ∧ w'.cell? ⟨g, m * 5 + 4, none⟩ = some (.string yx)) ∧ (w'.cell? ⟨b, o + k * 5, none⟩ = some (.int .i64 xd) ∧ w'.cell? ⟨b, o + k * 5 + 1, none⟩ = some (.int .i64 xq) ∧ w'.cell? ⟨b, o + k * 5 + 2, none⟩ = some (.slice xA xl.length xc) ∧ w'.cell? ⟨b, o + k * 5 + 3, none⟩ = some (.int .i64 xt) ∧ w'.cell? ⟨b, o + k * 5 + 4, none⟩ = some (.string xx))) (fun _ => false) (by kernel_rfl) ⟨⟨j0, j1, j2, j3, j4⟩, g0, g1, g2, g3, g4⟩ (fun hHeld => ?_)
              refine wpAnyT_take2 (i := 0) (v := ?_) rfl rfl (by kernel_rfl) (by kernel_rfl) (by kernel_rfl) (by kernel_rfl) (fun _ _ _ h => h) (Or.inl ⟨by rfl, ?_⟩) (by first | assumption | trivial) ?_
              rotate_left
              · (intro w hSw; (try dsimp only at hSw); go_simp) <;> (with_reducible rfl)
              simp only [List.setIfInBounds_toArray, List.set_cons_zero, List.set_cons_succ]
              refine wpAnyT_take2 (i := 1) (v := ?_) rfl rfl (by kernel_rfl) (by kernel_rfl) (by kernel_rfl) (by kernel_rfl) (fun _ _ _ h => h) (Or.inl ⟨by rfl, ?_⟩) (by first | assumption | trivial) ?_
              rotate_left
              · (intro w hSw; (try dsimp only at hSw); go_simp) <;> (with_reducible rfl)
              simp only [List.setIfInBounds_toArray, List.set_cons_zero, List.set_cons_succ]
              refine wpAnyT_take2 (i := 2) (v := ?_) rfl rfl (by kernel_rfl) (by kernel_rfl) (by kernel_rfl) (by kernel_rfl) (fun _ _ _ h => h) (Or.inl ⟨by rfl, ?_⟩) (by first | assumption | trivial) ?_
              rotate_left
              · (intro w hSw; (try dsimp only at hSw); go_simp) <;> (with_reducible rfl)
              simp only [List.setIfInBounds_toArray, List.set_cons_zero, List.set_cons_succ]
              refine wpAnyT_take2 (i := 3) (v := ?_) rfl rfl (by kernel_rfl) (by kernel_rfl) (by kernel_rfl) (by kernel_rfl) (fun _ _ _ h => h) (Or.inl ⟨by rfl, ?_⟩) (by first | assumption | trivial) ?_
              rotate_left
              · (intro w hSw; (try dsimp only at hSw); go_simp) <;> (with_reducible rfl)
              simp only [List.setIfInBounds_toArray, List.set_cons_zero, List.set_cons_succ]
              refine wpAnyT_take2 (i := 4) (v := ?_) rfl rfl (by kernel_rfl) (by kernel_rfl) (by kernel_rfl) (by kernel_rfl) (fun _ _ _ h => h) (Or.inl ⟨by rfl, ?_⟩) (by first | assumption | trivial) ?_
              rotate_left
              · (intro w hSw; (try dsimp only at hSw); go_simp) <;> (with_reducible rfl)
              simp only [List.setIfInBounds_toArray, List.set_cons_zero, List.set_cons_succ]
              refine wpAnyT_take2 (i := 5) (v := ?_) rfl rfl (by kernel_rfl) (by kernel_rfl) (by kernel_rfl) (by kernel_rfl) (fun _ _ _ h => h) (Or.inl ⟨by rfl, ?_⟩) (by first | assumption | trivial) ?_
              rotate_left
              · (intro w hSw; (try dsimp only at hSw); go_simp) <;> (with_reducible rfl)
              simp only [List.setIfInBounds_toArray, List.set_cons_zero, List.set_cons_succ]
              refine wpAnyT_take2 (i := 6) (v := ?_) rfl rfl (by kernel_rfl) (by kernel_rfl) (by kernel_rfl) (by kernel_rfl) (fun _ _ _ h => h) (Or.inl ⟨by rfl, ?_⟩) (by first | assumption | trivial) ?_
              rotate_left
              · (intro w hSw; (try dsimp only at hSw); go_simp) <;> (with_reducible rfl)
              simp only [List.setIfInBounds_toArray, List.set_cons_zero, List.set_cons_succ]
              refine wpAnyT_take2 (i := 7) (v := ?_) rfl rfl (by kernel_rfl) (by kernel_rfl) (by kernel_rfl) (by kernel_rfl) (fun _ _ _ h => h) (Or.inl ⟨by rfl, ?_⟩) (by first | assumption | trivial) ?_
              rotate_left
              · (intro w hSw; (try dsimp only at hSw); go_simp) <;> (with_reducible rfl)
              simp only [List.setIfInBounds_toArray, List.set_cons_zero, List.set_cons_succ]
              refine wpAnyT_take2 (i := 8) (v := ?_) rfl rfl (by kernel_rfl) (by kernel_rfl) (by kernel_rfl) (by kernel_rfl) (fun _ _ _ h => h) (Or.inl ⟨by rfl, ?_⟩) (by first | assumption | trivial) ?_
              rotate_left
              · (intro w hSw; (try dsimp only at hSw); go_simp) <;> (with_reducible rfl)
              simp only [List.setIfInBounds_toArray, List.set_cons_zero, List.set_cons_succ]
              refine wpAnyT_take2 (i := 9) (v := ?_) rfl rfl (by kernel_rfl) (by kernel_rfl) (by kernel_rfl) (by kernel_rfl) (fun _ _ _ h => h) (Or.inl ⟨by rfl, ?_⟩) (by first | assumption | trivial) ?_
              rotate_left
              · (intro w hSw; (try dsimp only at hSw); go_simp) <;> (with_reducible rfl)
              simp only [List.setIfInBounds_toArray, List.set_cons_zero, List.set_cons_succ]
              refine wpAnyT_take2 (i := 10) (v := ?_) rfl rfl (by kernel_rfl) (by kernel_rfl) (by kernel_rfl) (by kernel_rfl) (fun _ _ _ h => h) (Or.inl ⟨by rfl, ?_⟩) (by first | assumption | trivial) ?_
              rotate_left
              · (intro w hSw; (try dsimp only at hSw); go_simp) <;> (with_reducible rfl)
              simp only [List.setIfInBounds_toArray, List.set_cons_zero, List.set_cons_succ]
              refine wpAnyT_take2 (i := 11) (v := ?_) rfl rfl (by kernel_rfl) (by kernel_rfl) (by kernel_rfl) (by kernel_rfl) (fun _ _ _ h => h) (Or.inl ⟨by rfl, ?_⟩) (by first | assumption | trivial) ?_
              rotate_left
              · (intro w hSw; (try dsimp only at hSw); go_simp) <;> (with_reducible rfl)
              simp only [List.setIfInBounds_toArray, List.set_cons_zero, List.set_cons_succ]
              refine wpAnyT_take2 (i := 12) (v := ?_) rfl rfl (by kernel_rfl) (by kernel_rfl) (by kernel_rfl) (by kernel_rfl) (fun _ _ _ h => h) (Or.inl ⟨by rfl, ?_⟩) (by first | assumption | trivial) ?_
              rotate_left
              · (intro w hSw; (try dsimp only at hSw); go_simp) <;> (with_reducible rfl)
              simp only [List.setIfInBounds_toArray, List.set_cons_zero, List.set_cons_succ]
              clear hHeld
              refine wpAnyT_next (i := 13) (by kernel_rfl) rfl ?_
              go_wp2_with fail
              refine (rless ⟨yd, yq, ⟨yA, yc, yl⟩, yt, yx⟩ ⟨xd, xq, ⟨xA, xc, xl⟩, xt, xx⟩ _).mono ?_
              rintro e wi ⟨rfl, hb5⟩
              have hBI : Below wr.heap.size wr wi := (by repeat (first | (with_reducible exact Below.refl _ _) | ((with_reducible refine below_setr ?_ ?_); focus (first | (simp; done) | (simp; omega) | omega)) | ((with_reducible refine below_allocr ?_ ?_); focus (first | (simp; done) | (simp; omega) | omega)) | (with_reducible refine Below.drew ?_) | (with_reducible refine below_drewN ?_ _) | ((with_reducible apply below_via); focus (with_reducible assumption))))
              generalize hls : lessN (Note.d ⟨yd, yq, ⟨yA, yc, yl⟩, yt, yx⟩) (Note.d ⟨xd, xq, ⟨xA, xc, xl⟩, xt, xx⟩) = ls
              have HLS := Lib.hid hls
              clear hls hb5
              go_wp2_with fail
              refine ⟨(by first | exact ⟨⟨keep_cell hBI j0, keep_cell hBI j1, keep_cell hBI j2, keep_cell hBI j3, keep_cell hBI j4⟩, keep_cell hBI g0, keep_cell hBI g1, keep_cell hBI g2, keep_cell hBI g3, keep_cell hBI g4⟩ | exact fun _ => ⟨⟨keep_cell hBI j0, keep_cell hBI j1, keep_cell hBI j2, keep_cell hBI j3, keep_cell hBI j4⟩, keep_cell hBI g0, keep_cell hBI g1, keep_cell hBI g2, keep_cell hBI g3, keep_cell hBI g4⟩), ?_⟩
              have hHeld := And.intro (And.intro (keep_cell hBI j0) (And.intro (keep_cell hBI j1) (And.intro (keep_cell hBI j2) (And.intro (keep_cell hBI j3) (keep_cell hBI j4))))) (And.intro (keep_cell hBI g0) (And.intro (keep_cell hBI g1) (And.intro (keep_cell hBI g2) (And.intro (keep_cell hBI g3) (keep_cell hBI g4)))))
              refine wpAnyT_take2 (i := 14) (v := ?_) rfl rfl (by kernel_rfl) (by kernel_rfl) (by kernel_rfl) (by kernel_rfl) (fun _ _ _ h => h) (Or.inl ⟨by rfl, ?_⟩) (by first | assumption | trivial) ?_
              rotate_left
              · (intro w hSw; (try dsimp only at hSw); go_simp) <;> (with_reducible rfl)
              simp only [List.setIfInBounds_toArray, List.set_cons_zero, List.set_cons_succ]
              refine wpAnyT_done (by kernel_rfl) ?_ _
              clear hHeld j0 j1 j2 j3 j4 g0 g1 g2 g3 g4
              have hbi2 : Below wo.heap.size wo wi := hbi.trans (hBI.mono hbi.size)
              rcases ls with _ | _
              · have hins : insN (Note.d ⟨xd, xq, ⟨xA, xc, xl⟩, xt, xx⟩) (ol.map Note.d) = (ol.map Note.d).take m ++ (Note.d ⟨xd, xq, ⟨xA, xc, xl⟩, xt, xx⟩) :: (ol.map Note.d).drop m := by
                  refine insN_at (by simpa using hmo) (fun j hj hjm => ?_) (fun h => ?_)
                  · have hj' : j < ol.length := by simpa using hj
                    rw [List.getElem_map]; exact HLESS.out j _ hjm (List.getElem?_eq_getElem hj')
                  · rw [List.getElem_map, (List.getElem?_eq_some_iff.1 HYM.out).2]; exact HLS.out
                clear hbi hBI
                go_wp2_with fail
                obtain ⟨g0, g1, g2, g3, g4⟩ := Cells.c5 (HCL.out.keep ((HI.out.bel.trans (hbi2.mono HI.out.bel.size)).block b hb))
                have hOW : Own w4.heap.size 61 5 Note.enc wi ⟨some ⟨g, 0, none⟩, OC, ol⟩ := HI.out.own.below hbi2
                obtain ⟨A9, hA9⟩ : ∃ A, (if OC = m then some (⟨g, 0, none⟩ : Addr) else some ⟨g, m * 5, none⟩) = A := ⟨_, rfl⟩
                have hmc : m ≤ OC := Nat.le_trans hmo hOW.lecap3
                have hrA : Rd (· < wi.heap.size) 5 Note.enc wi ⟨some ⟨g, 0, none⟩, OC, ol⟩ := (hOW.rd Note.k).mono (fun b hb => hb.2)
                have hR9 := rdDrop hrA hmo (by simpa using hA9)
                have hT1 := ownTake Note.k hOW m hmo
                have hl1 : (ol.take m).length = m := by rw [List.length_take]; omega
                have hl2 : (ol.drop m).length = ol.length - m := by rw [List.length_drop]
                have HINS := Lib.hid (fun (x6 : World) (A6 : Option Addr) (c6 : Nat) (h1 : Own w4.heap.size 61 5 Note.enc x6 ⟨A6, c6, ol.take m ++ ([⟨xd, xq, ⟨xA, xc, xl⟩, xt, xx⟩] ++ ol.drop m)⟩) (h2 : Below w4.heap.size w4 x6) => RInv.add (x := ⟨xd, xq, ⟨xA, xc, xl⟩, xt, xx⟩) (m := m) HI.out h1 h2 HXM.out HFO.out HAT.out hins hmo)
                have hlo : ol.length ≤ 10000 := by have := HI.out.len; omega
                clear hins
                generalize ol.take m = l1 at *
                generalize ol.drop m = l2 at *
                have HE1 : Hid (Value.slice (some ⟨g, 0, none⟩) m OC = Value.slice (some ⟨g, 0, none⟩) l1.length OC) := Lib.hid (by rw [hl1])
                have HE2 : Hid (Value.slice A9 (ol.length - m) (OC - m) = Value.slice A9 l2.length (OC - m)) := Lib.hid (by rw [hl2])
                have HB1 : Hid (1 + l2.length ≤ maxLen) := Lib.hid (by rw [hl2]; simp only [maxLen]; omega)
                have HB2 : Hid ((1 + l2.length) * 64 ≤ 140737488355328) := Lib.hid (by rw [hl2]; omega)
                have HB3 : Hid (l1.length + (1 + l2.length) ≤ maxLen) := Lib.hid (by rw [hl1, hl2]; simp only [maxLen]; omega)
                have HB4 : Hid ((l1.length + (1 + l2.length)) * 64 ≤ 140737488355328) := Lib.hid (by rw [hl1, hl2]; omega)
                have HOT := Lib.hid hT1
                have HR9 := Lib.hid hR9
                have HBI := Lib.hid hbi2
                have hzi : wo.heap.size ≤ wi.heap.size := hbi2.size
                clear hOW hrA hR9 hT1 hl1 hl2 hlo hbi2
                have hmi : (m : Int) ≤ (ol.length : Int) := by omega
                go_wp2_with fail
                refine wp_region_T (fun w' => (w'.cell? ⟨b, o + k * 5, none⟩ = some (.int .i64 xd) ∧ w'.cell? ⟨b, o + k * 5 + 1, none⟩ = some (.int .i64 xq) ∧ w'.cell? ⟨b, o + k * 5 + 2, none⟩ = some (.slice xA xl.length xc) ∧ w'.cell? ⟨b, o + k * 5 + 3, none⟩ = some (.int .i64 xt) ∧ w'.cell? ⟨b, o + k * 5 + 4, none⟩ = some (.string xx))) (fun _ => false) (by kernel_rfl) ⟨g0, g1, g2, g3, g4⟩ (fun hHeld => ?_)
                refine wpAnyT_take2 (i := 0) (v := ?_) rfl rfl (by kernel_rfl) (by kernel_rfl) (by kernel_rfl) (by kernel_rfl) (fun _ _ _ h => h) (Or.inl ⟨by rfl, ?_⟩) (by first | assumption | trivial) ?_
                rotate_left
                · (intro w hSw; (try dsimp only at hSw); go_simp) <;> (with_reducible rfl)
                simp only [List.setIfInBounds_toArray, List.set_cons_zero, List.set_cons_succ]
                refine wpAnyT_take2 (i := 1) (v := ?_) rfl rfl (by kernel_rfl) (by kernel_rfl) (by kernel_rfl) (by kernel_rfl) (fun _ _ _ h => h) (Or.inl ⟨by rfl, ?_⟩) (by first | assumption | trivial) ?_
                rotate_left
                · (intro w hSw; (try dsimp only at hSw); go_simp) <;> (with_reducible rfl)
                simp only [List.setIfInBounds_toArray, List.set_cons_zero, List.set_cons_succ]
                refine wpAnyT_take2 (i := 2) (v := ?_) rfl rfl (by kernel_rfl) (by kernel_rfl) (by kernel_rfl) (by kernel_rfl) (fun _ _ _ h => h) (Or.inl ⟨by rfl, ?_⟩) (by first | assumption | trivial) ?_
                rotate_left
                · (intro w hSw; (try dsimp only at hSw); go_simp) <;> (with_reducible rfl)
                simp only [List.setIfInBounds_toArray, List.set_cons_zero, List.set_cons_succ]
                refine wpAnyT_take2 (i := 3) (v := ?_) rfl rfl (by kernel_rfl) (by kernel_rfl) (by kernel_rfl) (by kernel_rfl) (fun _ _ _ h => h) (Or.inl ⟨by rfl, ?_⟩) (by first | assumption | trivial) ?_
                rotate_left
                · (intro w hSw; (try dsimp only at hSw); go_simp) <;> (with_reducible rfl)
                simp only [List.setIfInBounds_toArray, List.set_cons_zero, List.set_cons_succ]
                refine wpAnyT_take2 (i := 5) (v := ?_) rfl rfl (by kernel_rfl) (by kernel_rfl) (by kernel_rfl) (by kernel_rfl) (fun _ _ _ h => h) (Or.inl ⟨by rfl, ?_⟩) (by first | assumption | trivial) ?_
                rotate_left
                · (intro w hSw; (try dsimp only at hSw); go_simp) <;> (with_reducible rfl)
                simp only [List.setIfInBounds_toArray, List.set_cons_zero, List.set_cons_succ]
                refine wpAnyT_take2 (i := 6) (v := ?_) rfl rfl (by kernel_rfl) (by kernel_rfl) (by kernel_rfl) (by kernel_rfl) (fun _ _ _ h => h) (Or.inl ⟨by rfl, ?_⟩) (by first | assumption | trivial) ?_
                rotate_left
                · (intro w hSw; (try dsimp only at hSw); go_simp) <;> (with_reducible rfl)
                simp only [List.setIfInBounds_toArray, List.set_cons_zero, List.set_cons_succ]
                refine wpAnyT_take2 (i := 7) (v := ?_) rfl rfl (by kernel_rfl) (by kernel_rfl) (by kernel_rfl) (by kernel_rfl) (fun _ _ _ h => h) (Or.inl ⟨by rfl, ?_⟩) (by first | assumption | trivial) ?_
                rotate_left
                · (intro w hSw; (try dsimp only at hSw); go_simp) <;> (with_reducible rfl)
                simp only [List.setIfInBounds_toArray, List.set_cons_zero, List.set_cons_succ]
                clear hHeld
                refine wpAnyT_next (i := 4) (by kernel_rfl) rfl ?_
                go_wp2_with fail
                refine ⟨(by first | exact ⟨kal _ g0, kal _ g1, kal _ g2, kal _ g3, kal _ g4⟩ | exact fun _ => ⟨kal _ g0, kal _ g1, kal _ g2, kal _ g3, kal _ g4⟩), ?_⟩
                refine wpAnyT_next (i := 8) (by kernel_rfl) rfl ?_
                refine wpl_append_sl (base := wi.heap.size) _ rfl (.tmp 75) (.tmp 78) _ rfl Try.underlying23 infoNote (by omega) Note.k Note.one ⟨some ⟨wi.heap.size, 0, none⟩, 1, [⟨xd, xq, ⟨xA, xc, xl⟩, xt, xx⟩]⟩ ⟨A9, OC - m, l2⟩ rfl HE2.out (Own.lit (base := wi.heap.size) wi.drew _ [⟨xd, xq, ⟨xA, xc, xl⟩, xt, xx⟩] (Nat.le_refl _) (by simp [maxLen]) rfl Note.k) (HR9.out.below' (by repeat (first | (with_reducible exact Below.refl _ _) | ((with_reducible refine below_setr ?_ ?_); focus (first | (simp; done) | (simp; omega) | omega)) | ((with_reducible refine below_allocr ?_ ?_); focus (first | (simp; done) | (simp; omega) | omega)) | (with_reducible refine Below.drew ?_) | (with_reducible refine below_drewN ?_ _))) (Nat.le_refl _)) HB1.out HB2.out (by simp) ?_
                intro A5 c5 w5 hown5 hg5 hat5
                obtain ⟨lq, hlq⟩ : ∃ l, l = [(⟨xd, xq, ⟨xA, xc, xl⟩, xt, xx⟩ : Note)] ++ l2 := ⟨_, rfl⟩
                have hlq2 : lq.length = 1 + l2.length := by rw [hlq]; simp; omega
                rw [← hlq] at hown5
                rw [← hlq]
                have hB5 : Below wi.heap.size wi w5 := Below.grown (B := wi.heap.size) (a := wi) (by repeat (first | (with_reducible exact Below.refl _ _) | ((with_reducible refine below_setr ?_ ?_); focus (first | (simp; done) | (simp; omega) | omega)) | ((with_reducible refine below_allocr ?_ ?_); focus (first | (simp; done) | (simp; omega) | omega)) | (with_reducible refine Below.drew ?_) | (with_reducible refine below_drewN ?_ _))) hg5 (by first | (simp; done) | (simp; omega)) (by simp [Value.ownBlock])
                have HLQ := Lib.hid hlq
                have HLQ2 := Lib.hid hlq2
                have HO5 := Lib.hid hown5
                clear hlq hlq2 hown5 hg5 hat5
                go_wp2_with fail
                refine ⟨(by first | exact ⟨keep_cell hB5 g0, keep_cell hB5 g1, keep_cell hB5 g2, keep_cell hB5 g3, keep_cell hB5 g4⟩ | exact fun _ => ⟨keep_cell hB5 g0, keep_cell hB5 g1, keep_cell hB5 g2, keep_cell hB5 g3, keep_cell hB5 g4⟩), ?_⟩
                have hHeld := And.intro (keep_cell hB5 g0) (And.intro (keep_cell hB5 g1) (And.intro (keep_cell hB5 g2) (And.intro (keep_cell hB5 g3) (keep_cell hB5 g4))))
                refine wpAnyT_take2 (i := 9) (v := ?_) rfl rfl (by kernel_rfl) (by kernel_rfl) (by kernel_rfl) (by kernel_rfl) (fun _ _ _ h => h) (Or.inl ⟨by rfl, ?_⟩) (by first | assumption | trivial) ?_
                rotate_left
                · (intro w hSw; (try dsimp only at hSw); go_simp) <;> (with_reducible rfl)
                simp only [List.setIfInBounds_toArray, List.set_cons_zero, List.set_cons_succ]
                refine wpAnyT_done (by kernel_rfl) ?_ _
                clear hHeld g0 g1 g2 g3 g4
                have hBW5 : Below w4.heap.size w4 w5 := (HI.out.bel.trans (HBI.out.mono HI.out.bel.size)).trans (hB5.mono (Nat.le_trans HI.out.bel.size hzi))
                have hz5 : wi.heap.size ≤ w5.heap.size := hB5.size
                go_wp2_with (at_builtin; go_must (refine wpl_append_sl (base := w4.heap.size) _ rfl (.tmp 82) (.tmp 83) _ rfl Try.underlying23 infoNote (by omega) Note.k Note.one ⟨some ⟨g, 0, none⟩, OC, l1⟩ ⟨A5, c5, lq⟩ HE1.out rfl (HOT.out.below hB5) ((HO5.out.rd Note.k).mono (G := fun b => b < w5.heap.size) (fun b hb => hb.2)) (by rw [HLQ2.out]; exact HB3.out) (by rw [HLQ2.out]; exact HB4.out) hBW5.size ?_); intro A6 c6 w6 hown6 hg6 hat6; apply Hid.out)
                refine Lib.hid ?_
                have hB6 : Below w4.heap.size w4 w6 := Below.grown hBW5 hg6 hBW5.size (by simp [Value.ownBlock]; omega)
                have hfin : RInv w w4 w6 all (k + 1) A6 c6 (l1 ++ lq) := by
                  rw [HLQ.out]
                  exact HINS.out w6 A6 c6 (by rw [← HLQ.out]; exact hown6) hB6
                have HFIN := Lib.hid hfin
                clear hown6 hg6 hat6 hfin
                go_wp2_with fail
                go_roundw
                case rel => exact ⟨k + 1, A6, c6, _, by omega, by simp [Act.eval, go_sem], by go_num, HFIN.out⟩
                case measure => simp [intOf]; omega
              · go_wp2_with fail
                go_roundw
                case rel =>
                  refine ⟨m + 1, by omega, by go_num, hbi2, fun j y hj hy => ?_⟩
                  rcases Nat.lt_or_ge j m with h1 | h1
                  · exact HLESS.out j y h1 hy
                  · obtain rfl : j = m := by omega
                    rw [HYM.out] at hy; injection hy with hy; subst hy; exact HLS.out
                case measure => simp [intOf]; omega
            · have hins : insN (Note.d ⟨xd, xq, ⟨xA, xc, xl⟩, xt, xx⟩) (ol.map Note.d) = (ol.map Note.d).take m ++ (Note.d ⟨xd, xq, ⟨xA, xc, xl⟩, xt, xx⟩) :: (ol.map Note.d).drop m := by
                refine insN_at (by simpa using hmo) (fun j hj hjm => ?_) (fun h => absurd (by simpa using h) hml)
                have hj' : j < ol.length := by simpa using hj
                rw [List.getElem_map]; exact HLESS.out j _ hjm (List.getElem?_eq_getElem hj')
              go_wp2_with fail
              refine wp_region_T (fun _ => True) (fun _ => false) (by kernel_rfl) trivial (fun hHeld => ?_)
              refine wpAnyT_take2 (i := 0) (v := ?_) rfl rfl (by kernel_rfl) (by kernel_rfl) (by kernel_rfl) (by kernel_rfl) (fun _ _ _ h => h) (Or.inl ⟨by rfl, ?_⟩) (by first | assumption | trivial) ?_
              rotate_left
              · (intro w hSw; (try dsimp only at hSw); go_simp) <;> (with_reducible rfl)
              simp only [List.setIfInBounds_toArray, List.set_cons_zero, List.set_cons_succ]
              refine wpAnyT_take2 (i := 1) (v := ?_) rfl rfl (by kernel_rfl) (by kernel_rfl) (by kernel_rfl) (by kernel_rfl) (fun _ _ _ h => h) (Or.inl ⟨by rfl, ?_⟩) (by first | assumption | trivial) ?_
              rotate_left
              · (intro w hSw; (try dsimp only at hSw); go_simp) <;> (with_reducible rfl)
              simp only [List.setIfInBounds_toArray, List.set_cons_zero, List.set_cons_succ]
              refine wpAnyT_take2 (i := 2) (v := ?_) rfl rfl (by kernel_rfl) (by kernel_rfl) (by kernel_rfl) (by kernel_rfl) (fun _ _ _ h => h) (Or.inl ⟨by rfl, ?_⟩) (by first | assumption | trivial) ?_
              rotate_left
              · (intro w hSw; (try dsimp only at hSw); go_simp) <;> (with_reducible rfl)
              simp only [List.setIfInBounds_toArray, List.set_cons_zero, List.set_cons_succ]
              refine wpAnyT_take2 (i := 3) (v := ?_) rfl rfl (by kernel_rfl) (by kernel_rfl) (by kernel_rfl) (by kernel_rfl) (fun _ _ _ h => h) (Or.inl ⟨by rfl, ?_⟩) (by first | assumption | trivial) ?_
              rotate_left
              · (intro w hSw; (try dsimp only at hSw); go_simp) <;> (with_reducible rfl)
              simp only [List.setIfInBounds_toArray, List.set_cons_zero, List.set_cons_succ]
              refine wpAnyT_take2 (i := 4) (v := ?_) rfl rfl (by kernel_rfl) (by kernel_rfl) (by kernel_rfl) (by kernel_rfl) (fun _ _ _ h => h) (Or.inl ⟨by rfl, ?_⟩) (by first | assumption | trivial) ?_
              rotate_left
              · (intro w hSw; (try dsimp only at hSw); go_simp) <;> (with_reducible rfl)
              simp only [List.setIfInBounds_toArray, List.set_cons_zero, List.set_cons_succ]
              refine wpAnyT_take2 (i := 5) (v := undef) rfl rfl (by kernel_rfl) (by kernel_rfl) (by kernel_rfl) (by kernel_rfl) (fun _ _ _ h => h) (Or.inr ⟨by rfl, rfl⟩) (by first | assumption | trivial) ?_
              simp only [List.setIfInBounds_toArray, List.set_cons_zero, List.set_cons_succ]
              refine wpAnyT_take2 (i := 6) (v := undef) rfl rfl (by kernel_rfl) (by kernel_rfl) (by kernel_rfl) (by kernel_rfl) (fun _ _ _ h => h) (Or.inr ⟨by rfl, rfl⟩) (by first | assumption | trivial) ?_
              simp only [List.setIfInBounds_toArray, List.set_cons_zero, List.set_cons_succ]
              refine wpAnyT_take2 (i := 7) (v := undef) rfl rfl (by kernel_rfl) (by kernel_rfl) (by kernel_rfl) (by kernel_rfl) (fun _ _ _ h => h) (Or.inr ⟨by rfl, rfl⟩) (by first | assumption | trivial) ?_
              simp only [List.setIfInBounds_toArray, List.set_cons_zero, List.set_cons_succ]
              refine wpAnyT_take2 (i := 8) (v := undef) rfl rfl (by kernel_rfl) (by kernel_rfl) (by kernel_rfl) (by kernel_rfl) (fun _ _ _ h => h) (Or.inr ⟨by rfl, rfl⟩) (by first | assumption | trivial) ?_
              simp only [List.setIfInBounds_toArray, List.set_cons_zero, List.set_cons_succ]
              refine wpAnyT_take2 (i := 9) (v := undef) rfl rfl (by kernel_rfl) (by kernel_rfl) (by kernel_rfl) (by kernel_rfl) (fun _ _ _ h => h) (Or.inr ⟨by rfl, rfl⟩) (by first | assumption | trivial) ?_
              simp only [List.setIfInBounds_toArray, List.set_cons_zero, List.set_cons_succ]
              refine wpAnyT_take2 (i := 10) (v := undef) rfl rfl (by kernel_rfl) (by kernel_rfl) (by kernel_rfl) (by kernel_rfl) (fun _ _ _ h => h) (Or.inr ⟨by rfl, rfl⟩) (by first | assumption | trivial) ?_
              simp only [List.setIfInBounds_toArray, List.set_cons_zero, List.set_cons_succ]
              refine wpAnyT_take2 (i := 11) (v := undef) rfl rfl (by kernel_rfl) (by kernel_rfl) (by kernel_rfl) (by kernel_rfl) (fun _ _ _ h => h) (Or.inr ⟨by rfl, rfl⟩) (by first | assumption | trivial) ?_
              simp only [List.setIfInBounds_toArray, List.set_cons_zero, List.set_cons_succ]
              refine wpAnyT_take2 (i := 12) (v := undef) rfl rfl (by kernel_rfl) (by kernel_rfl) (by kernel_rfl) (by kernel_rfl) (fun _ _ _ h => h) (Or.inr ⟨by rfl, rfl⟩) (by first | assumption | trivial) ?_
              simp only [List.setIfInBounds_toArray, List.set_cons_zero, List.set_cons_succ]
              refine wpAnyT_take2 (i := 13) (v := undef) rfl rfl (by kernel_rfl) (by kernel_rfl) (by kernel_rfl) (by kernel_rfl) (fun _ _ _ h => h) (Or.inr ⟨by rfl, rfl⟩) (by first | assumption | trivial) ?_
              simp only [List.setIfInBounds_toArray, List.set_cons_zero, List.set_cons_succ]
              refine wpAnyT_take2 (i := 14) (v := ?_) rfl rfl (by kernel_rfl) (by kernel_rfl) (by kernel_rfl) (by kernel_rfl) (fun _ _ _ h => h) (Or.inl ⟨by rfl, ?_⟩) (by first | assumption | trivial) ?_
              rotate_left
              · (intro w hSw; (try dsimp only at hSw); go_simp) <;> (with_reducible rfl)
              simp only [List.setIfInBounds_toArray, List.set_cons_zero, List.set_cons_succ]
              refine wpAnyT_done (by kernel_rfl) ?_ _
              clear hHeld
              obtain ⟨g0, g1, g2, g3, g4⟩ := Cells.c5 (HCL.out.keep ((HI.out.bel.trans (hbi.mono HI.out.bel.size)).block b hb))
              have hOW : Own w4.heap.size 61 5 Note.enc wr ⟨some ⟨g, 0, none⟩, OC, ol⟩ := HI.out.own.below hbi
              obtain ⟨A9, hA9⟩ : ∃ A, (if OC = m then some (⟨g, 0, none⟩ : Addr) else some ⟨g, m * 5, none⟩) = A := ⟨_, rfl⟩
              have hmc : m ≤ OC := Nat.le_trans hmo hOW.lecap3
              have hrA : Rd (· < wr.heap.size) 5 Note.enc wr ⟨some ⟨g, 0, none⟩, OC, ol⟩ := (hOW.rd Note.k).mono (fun b hb => hb.2)
              have hR9 := rdDrop hrA hmo (by simpa using hA9)
              have hT1 := ownTake Note.k hOW m hmo
              have hl1 : (ol.take m).length = m := by rw [List.length_take]; omega
              have hl2 : (ol.drop m).length = ol.length - m := by rw [List.length_drop]
              have HINS := Lib.hid (fun (x6 : World) (A6 : Option Addr) (c6 : Nat) (h1 : Own w4.heap.size 61 5 Note.enc x6 ⟨A6, c6, ol.take m ++ ([⟨xd, xq, ⟨xA, xc, xl⟩, xt, xx⟩] ++ ol.drop m)⟩) (h2 : Below w4.heap.size w4 x6) => RInv.add (x := ⟨xd, xq, ⟨xA, xc, xl⟩, xt, xx⟩) (m := m) HI.out h1 h2 HXM.out HFO.out HAT.out hins hmo)
              have hlo : ol.length ≤ 10000 := by have := HI.out.len; omega
              clear hins
              generalize ol.take m = l1 at *
              generalize ol.drop m = l2 at *
              have HE1 : Hid (Value.slice (some ⟨g, 0, none⟩) m OC = Value.slice (some ⟨g, 0, none⟩) l1.length OC) := Lib.hid (by rw [hl1])
              have HE2 : Hid (Value.slice A9 (ol.length - m) (OC - m) = Value.slice A9 l2.length (OC - m)) := Lib.hid (by rw [hl2])
              have HB1 : Hid (1 + l2.length ≤ maxLen) := Lib.hid (by rw [hl2]; simp only [maxLen]; omega)
              have HB2 : Hid ((1 + l2.length) * 64 ≤ 140737488355328) := Lib.hid (by rw [hl2]; omega)
              have HB3 : Hid (l1.length + (1 + l2.length) ≤ maxLen) := Lib.hid (by rw [hl1, hl2]; simp only [maxLen]; omega)
              have HB4 : Hid ((l1.length + (1 + l2.length)) * 64 ≤ 140737488355328) := Lib.hid (by rw [hl1, hl2]; omega)
              have HOT := Lib.hid hT1
              have HR9 := Lib.hid hR9
              have HBI := Lib.hid hbi
              have hzi : wo.heap.size ≤ wr.heap.size := hbi.size
              clear hOW hrA hR9 hT1 hl1 hl2 hlo hbi
              have hmi : (m : Int) ≤ (ol.length : Int) := by omega
              go_wp2_with fail
              refine wp_region_T (fun w' => (w'.cell? ⟨b, o + k * 5, none⟩ = some (.int .i64 xd) ∧ w'.cell? ⟨b, o + k * 5 + 1, none⟩ = some (.int .i64 xq) ∧ w'.cell? ⟨b, o + k * 5 + 2, none⟩ = some (.slice xA xl.length xc) ∧ w'.cell? ⟨b, o + k * 5 + 3, none⟩ = some (.int .i64 xt) ∧ w'.cell? ⟨b, o + k * 5 + 4, none⟩ = some (.string xx))) (fun _ => false) (by kernel_rfl) ⟨g0, g1, g2, g3, g4⟩ (fun hHeld => ?_)
              refine wpAnyT_take2 (i := 0) (v := ?_) rfl rfl (by kernel_rfl) (by kernel_rfl) (by kernel_rfl) (by kernel_rfl) (fun _ _ _ h => h) (Or.inl ⟨by rfl, ?_⟩) (by first | assumption | trivial) ?_
              rotate_left
              · (intro w hSw; (try dsimp only at hSw); go_simp) <;> (with_reducible rfl)
              simp only [List.setIfInBounds_toArray, List.set_cons_zero, List.set_cons_succ]
              refine wpAnyT_take2 (i := 1) (v := ?_) rfl rfl (by kernel_rfl) (by kernel_rfl) (by kernel_rfl) (by kernel_rfl) (fun _ _ _ h => h) (Or.inl ⟨by rfl, ?_⟩) (by first | assumption | trivial) ?_
              rotate_left
              · (intro w hSw; (try dsimp only at hSw); go_simp) <;> (with_reducible rfl)
              simp only [List.setIfInBounds_toArray, List.set_cons_zero, List.set_cons_succ]
              refine wpAnyT_take2 (i := 2) (v := ?_) rfl rfl (by kernel_rfl) (by kernel_rfl) (by kernel_rfl) (by kernel_rfl) (fun _ _ _ h => h) (Or.inl ⟨by rfl, ?_⟩) (by first | assumption | trivial) ?_
              rotate_left
              · (intro w hSw; (try dsimp only at hSw); go_simp) <;> (with_reducible rfl)
              simp only [List.setIfInBounds_toArray, List.set_cons_zero, List.set_cons_succ]
              refine wpAnyT_take2 (i := 3) (v := ?_) rfl rfl (by kernel_rfl) (by kernel_rfl) (by kernel_rfl) (by kernel_rfl) (fun _ _ _ h => h) (Or.inl ⟨by rfl, ?_⟩) (by first | assumption | trivial) ?_
              rotate_left
              · (intro w hSw; (try dsimp only at hSw); go_simp) <;> (with_reducible rfl)
              simp only [List.setIfInBounds_toArray, List.set_cons_zero, List.set_cons_succ]
              refine wpAnyT_take2 (i := 5) (v := ?_) rfl rfl (by kernel_rfl) (by kernel_rfl) (by kernel_rfl) (by kernel_rfl) (fun _ _ _ h => h) (Or.inl ⟨by rfl, ?_⟩) (by first | assumption | trivial) ?_
              rotate_left
              · (intro w hSw; (try dsimp only at hSw); go_simp) <;> (with_reducible rfl)
              simp only [List.setIfInBounds_toArray, List.set_cons_zero, List.set_cons_succ]
              refine wpAnyT_take2 (i := 6) (v := ?_) rfl rfl (by kernel_rfl) (by kernel_rfl) (by kernel_rfl) (by kernel_rfl) (fun _ _ _ h => h) (Or.inl ⟨by rfl, ?_⟩) (by first | assumption | trivial) ?_
              rotate_left
              · (intro w hSw; (try dsimp only at hSw); go_simp) <;> (with_reducible rfl)
              simp only [List.setIfInBounds_toArray, List.set_cons_zero, List.set_cons_succ]
              refine wpAnyT_take2 (i := 7) (v := ?_) rfl rfl (by kernel_rfl) (by kernel_rfl) (by kernel_rfl) (by kernel_rfl) (fun _ _ _ h => h) (Or.inl ⟨by rfl, ?_⟩) (by first | assumption | trivial) ?_
              rotate_left
              · (intro w hSw; (try dsimp only at hSw); go_simp) <;> (with_reducible rfl)
              simp only [List.setIfInBounds_toArray, List.set_cons_zero, List.set_cons_succ]
              clear hHeld
              refine wpAnyT_next (i := 4) (by kernel_rfl) rfl ?_
              go_wp2_with fail
              refine ⟨(by first | exact ⟨kal _ g0, kal _ g1, kal _ g2, kal _ g3, kal _ g4⟩ | exact fun _ => ⟨kal _ g0, kal _ g1, kal _ g2, kal _ g3, kal _ g4⟩), ?_⟩
              refine wpAnyT_next (i := 8) (by kernel_rfl) rfl ?_
              refine wpl_append_sl (base := wr.heap.size) _ rfl (.tmp 75) (.tmp 78) _ rfl Try.underlying23 infoNote (by omega) Note.k Note.one ⟨some ⟨wr.heap.size, 0, none⟩, 1, [⟨xd, xq, ⟨xA, xc, xl⟩, xt, xx⟩]⟩ ⟨A9, OC - m, l2⟩ rfl HE2.out (Own.lit (base := wr.heap.size) wr.drew _ [⟨xd, xq, ⟨xA, xc, xl⟩, xt, xx⟩] (Nat.le_refl _) (by simp [maxLen]) rfl Note.k) (HR9.out.below' (by repeat (first | (with_reducible exact Below.refl _ _) | ((with_reducible refine below_setr ?_ ?_); focus (first | (simp; done) | (simp; omega) | omega)) | ((with_reducible refine below_allocr ?_ ?_); focus (first | (simp; done) | (simp; omega) | omega)) | (with_reducible refine Below.drew ?_) | (with_reducible refine below_drewN ?_ _))) (Nat.le_refl _)) HB1.out HB2.out (by simp) ?_
              intro A5 c5 w5 hown5 hg5 hat5
              obtain ⟨lq, hlq⟩ : ∃ l, l = [(⟨xd, xq, ⟨xA, xc, xl⟩, xt, xx⟩ : Note)] ++ l2 := ⟨_, rfl⟩
              have hlq2 : lq.length = 1 + l2.length := by rw [hlq]; simp; omega
              rw [← hlq] at hown5
              rw [← hlq]
              have hB5 : Below wr.heap.size wr w5 := Below.grown (B := wr.heap.size) (a := wr) (by repeat (first | (with_reducible exact Below.refl _ _) | ((with_reducible refine below_setr ?_ ?_); focus (first | (simp; done) | (simp; omega) | omega)) | ((with_reducible refine below_allocr ?_ ?_); focus (first | (simp; done) | (simp; omega) | omega)) | (with_reducible refine Below.drew ?_) | (with_reducible refine below_drewN ?_ _))) hg5 (by first | (simp; done) | (simp; omega)) (by simp [Value.ownBlock])
              have HLQ := Lib.hid hlq
              have HLQ2 := Lib.hid hlq2
              have HO5 := Lib.hid hown5
              clear hlq hlq2 hown5 hg5 hat5
              go_wp2_with fail
              refine ⟨(by first | exact ⟨keep_cell hB5 g0, keep_cell hB5 g1, keep_cell hB5 g2, keep_cell hB5 g3, keep_cell hB5 g4⟩ | exact fun _ => ⟨keep_cell hB5 g0, keep_cell hB5 g1, keep_cell hB5 g2, keep_cell hB5 g3, keep_cell hB5 g4⟩), ?_⟩
              have hHeld := And.intro (keep_cell hB5 g0) (And.intro (keep_cell hB5 g1) (And.intro (keep_cell hB5 g2) (And.intro (keep_cell hB5 g3) (keep_cell hB5 g4))))
              refine wpAnyT_take2 (i := 9) (v := ?_) rfl rfl (by kernel_rfl) (by kernel_rfl) (by kernel_rfl) (by kernel_rfl) (fun _ _ _ h => h) (Or.inl ⟨by rfl, ?_⟩) (by first | assumption | trivial) ?_
              rotate_left
              · (intro w hSw; (try dsimp only at hSw); go_simp) <;> (with_reducible rfl)
              simp only [List.setIfInBounds_toArray, List.set_cons_zero, List.set_cons_succ]
              refine wpAnyT_done (by kernel_rfl) ?_ _
              clear hHeld g0 g1 g2 g3 g4
              have hBW5 : Below w4.heap.size w4 w5 := (HI.out.bel.trans (HBI.out.mono HI.out.bel.size)).trans (hB5.mono (Nat.le_trans HI.out.bel.size hzi))
              have hz5 : wr.heap.size ≤ w5.heap.size := hB5.size
              go_wp2_with (at_builtin; go_must (refine wpl_append_sl (base := w4.heap.size) _ rfl (.tmp 82) (.tmp 83) _ rfl Try.underlying23 infoNote (by omega) Note.k Note.one ⟨some ⟨g, 0, none⟩, OC, l1⟩ ⟨A5, c5, lq⟩ HE1.out rfl (HOT.out.below hB5) ((HO5.out.rd Note.k).mono (G := fun b => b < w5.heap.size) (fun b hb => hb.2)) (by rw [HLQ2.out]; exact HB3.out) (by rw [HLQ2.out]; exact HB4.out) hBW5.size ?_); intro A6 c6 w6 hown6 hg6 hat6; apply Hid.out)
              refine Lib.hid ?_
              have hB6 : Below w4.heap.size w4 w6 := Below.grown hBW5 hg6 hBW5.size (by simp [Value.ownBlock]; omega)
              have hfin : RInv w w4 w6 all (k + 1) A6 c6 (l1 ++ lq) := by
                rw [HLQ.out]
                exact HINS.out w6 A6 c6 (by rw [← HLQ.out]; exact hown6) hB6
              have HFIN := Lib.hid hfin
              clear hown6 hg6 hat6 hfin
              go_wp2_with fail
              go_roundw
              case rel => exact ⟨k + 1, A6, c6, _, by omega, by simp [Act.eval, go_sem], by go_num, HFIN.out⟩
              case measure => simp [intOf]; omega
      · rw [hat] at hAt
        simp only [oi] at hAt
        obtain ⟨hj, hfj⟩ := find_idx hat
        have HAT := Lib.hid hfj
        clear hat hfj
        go_wp2_with fail
        refine wp_region_T (fun w' => w'.cell? ⟨b, o + k * 5, none⟩ = some (.int .i64 xd) ∧ w'.cell? ⟨b, o + k * 5 + 1, none⟩ = some (.int .i64 xq)) (fun _ => false) (by kernel_rfl) ⟨g0, g1⟩ (fun hHeld => ?_)
        refine wpAnyT_take2 (i := 0) (v := ?_) rfl rfl (by kernel_rfl) (by kernel_rfl) (by kernel_rfl) (by kernel_rfl) (fun _ _ _ h => h) (Or.inl ⟨by rfl, ?_⟩) (by first | assumption | trivial) ?_
        rotate_left
        · (intro w hSw; (try dsimp only at hSw); go_simp) <;> (with_reducible rfl)
        simp only [List.setIfInBounds_toArray, List.set_cons_zero, List.set_cons_succ]
        refine wpAnyT_take2 (i := 1) (v := ?_) rfl rfl (by kernel_rfl) (by kernel_rfl) (by kernel_rfl) (by kernel_rfl) (fun _ _ _ h => h) (Or.inl ⟨by rfl, ?_⟩) (by first | assumption | trivial) ?_
        rotate_left
        · (intro w hSw; (try dsimp only at hSw); go_simp) <;> (with_reducible rfl)
        simp only [List.setIfInBounds_toArray, List.set_cons_zero, List.set_cons_succ]
        refine wpAnyT_take2 (i := 2) (v := ?_) rfl rfl (by kernel_rfl) (by kernel_rfl) (by kernel_rfl) (by kernel_rfl) (fun _ _ _ h => h) (Or.inl ⟨by rfl, ?_⟩) (by first | assumption | trivial) ?_
        rotate_left
        · (intro w hSw; (try dsimp only at hSw); go_simp) <;> (with_reducible rfl)
        simp only [List.setIfInBounds_toArray, List.set_cons_zero, List.set_cons_succ]
        refine wpAnyT_take2 (i := 3) (v := ?_) rfl rfl (by kernel_rfl) (by kernel_rfl) (by kernel_rfl) (by kernel_rfl) (fun _ _ _ h => h) (Or.inl ⟨by rfl, ?_⟩) (by first | assumption | trivial) ?_
        rotate_left
        · (intro w hSw; (try dsimp only at hSw); go_simp) <;> (with_reducible rfl)
        simp only [List.setIfInBounds_toArray, List.set_cons_zero, List.set_cons_succ]
        refine wpAnyT_take2 (i := 4) (v := ?_) rfl rfl (by kernel_rfl) (by kernel_rfl) (by kernel_rfl) (by kernel_rfl) (fun _ _ _ h => h) (Or.inl ⟨by rfl, ?_⟩) (by first | assumption | trivial) ?_
        rotate_left
        · (intro w hSw; (try dsimp only at hSw); go_simp) <;> (with_reducible rfl)
        simp only [List.setIfInBounds_toArray, List.set_cons_zero, List.set_cons_succ]
        refine wpAnyT_take2 (i := 5) (v := ?_) rfl rfl (by kernel_rfl) (by kernel_rfl) (by kernel_rfl) (by kernel_rfl) (fun _ _ _ h => h) (Or.inl ⟨by rfl, ?_⟩) (by first | assumption | trivial) ?_
        rotate_left
        · (intro w hSw; (try dsimp only at hSw); go_simp) <;> (with_reducible rfl)
        simp only [List.setIfInBounds_toArray, List.set_cons_zero, List.set_cons_succ]
        refine wpAnyT_take2 (i := 6) (v := ?_) rfl rfl (by kernel_rfl) (by kernel_rfl) (by kernel_rfl) (by kernel_rfl) (fun _ _ _ h => h) (Or.inl ⟨by rfl, ?_⟩) (by first | assumption | trivial) ?_
        rotate_left
        · (intro w hSw; (try dsimp only at hSw); go_simp) <;> (with_reducible rfl)
        simp only [List.setIfInBounds_toArray, List.set_cons_zero, List.set_cons_succ]
        refine wpAnyT_take2 (i := 7) (v := ?_) rfl rfl (by kernel_rfl) (by kernel_rfl) (by kernel_rfl) (by kernel_rfl) (fun _ _ _ h => h) (Or.inl ⟨by rfl, ?_⟩) (by first | assumption | trivial) ?_
        rotate_left
        · (intro w hSw; (try dsimp only at hSw); go_simp) <;> (with_reducible rfl)
        simp only [List.setIfInBounds_toArray, List.set_cons_zero, List.set_cons_succ]
        refine wpAnyT_take2 (i := 8) (v := ?_) rfl rfl (by kernel_rfl) (by kernel_rfl) (by kernel_rfl) (by kernel_rfl) (fun _ _ _ h => h) (Or.inl ⟨by rfl, ?_⟩) (by first | assumption | trivial) ?_
        rotate_left
        · (intro w hSw; (try dsimp only at hSw); go_simp) <;> (with_reducible rfl)
        simp only [List.setIfInBounds_toArray, List.set_cons_zero, List.set_cons_succ]
        refine wpAnyT_take2 (i := 9) (v := ?_) rfl rfl (by kernel_rfl) (by kernel_rfl) (by kernel_rfl) (by kernel_rfl) (fun _ _ _ h => h) (Or.inl ⟨by rfl, ?_⟩) (by first | assumption | trivial) ?_
        rotate_left
        · (intro w hSw; (try dsimp only at hSw); go_simp) <;> (with_reducible rfl)
        simp only [List.setIfInBounds_toArray, List.set_cons_zero, List.set_cons_succ]
        refine wpAnyT_take2 (i := 10) (v := ?_) rfl rfl (by kernel_rfl) (by kernel_rfl) (by kernel_rfl) (by kernel_rfl) (fun _ _ _ h => h) (Or.inl ⟨by rfl, ?_⟩) (by first | assumption | trivial) ?_
        rotate_left
        · (intro w hSw; (try dsimp only at hSw); go_simp) <;> (with_reducible rfl)
        simp only [List.setIfInBounds_toArray, List.set_cons_zero, List.set_cons_succ]
        refine wpAnyT_next (i := 11) (by kernel_rfl) rfl ?_
        go_wp2_with fail
        refine hAt.mono ?_
        rintro e w5 ⟨rfl, rfl⟩
        clear hAt
        go_wp2_with fail
        refine ⟨(by first | exact hHeld | exact fun _ => hHeld), ?_⟩
        refine wpAnyT_take2 (i := 12) (v := ?_) rfl rfl (by kernel_rfl) (by kernel_rfl) (by kernel_rfl) (by kernel_rfl) (fun _ _ _ h => h) (Or.inl ⟨by rfl, ?_⟩) (by first | assumption | trivial) ?_
        rotate_left
        · (intro w hSw; (try dsimp only at hSw); go_simp) <;> (with_reducible rfl)
        simp only [List.setIfInBounds_toArray, List.set_cons_zero, List.set_cons_succ]
        refine wpAnyT_done (by kernel_rfl) ?_ _
        clear hHeld
        go_wp2_with fail
        have hj' : j < ol.length := by simpa using hj
        obtain ⟨bo, oo, hOA, hbo, hco⟩ := HRD.out.at1 hj'
        obtain ⟨j0, j1, j2, j3, j4⟩ := Cells.c5 hco
        have hym : ol[j] ∈ ol := List.getElem_mem hj'
        have hyd : (ol.map Note.d)[j] = ol[j].d := by simp
        rw [hyd] at HAT
        have hya := (AFS.out _ (HI.out.mem _ hym)).below' (hB4.trans (HI.out.bel.mono hB4.size)) (Nat.le_refl _)
        have hxa := (AFS.out _ HXM.out).below' (hB4.trans (HI.out.bel.mono hB4.size)) (Nat.le_refl _)
        clear hco hym hyd
        generalize ol[j] = y at *
        obtain ⟨yd, yq, ⟨yA, yc, yl⟩, yt, yx⟩ := y
        have HYA := Lib.hid hya
        have HXA := Lib.hid hxa
        clear hya hxa
        simp only at hOA
        subst hOA
        refine wp_region_T (fun w' => (w'.cell? ⟨bo, oo + j * 5, none⟩ = some (.int .i64 yd) ∧ w'.cell? ⟨bo, oo + j * 5 + 1, none⟩ = some (.int .i64 yq) ∧ w'.cell? ⟨bo, oo + j * 5 + 2, none⟩ = some (.slice yA yl.length yc) ∧ w'.cell? ⟨bo, oo + j * 5 + 3, none⟩ = some (.int .i64 yt) ∧ w'.cell? ⟨bo, oo + j * 5 + 4, none⟩ = some (.string yx)) ∧ (w'.cell? ⟨b, o + k * 5, none⟩ = some (.int .i64 xd) ∧ w'.cell? ⟨b, o + k * 5 + 1, none⟩ = some (.int .i64 xq) ∧ w'.cell? ⟨b, o + k * 5 + 2, none⟩ = some (.slice xA xl.length xc) ∧ w'.cell? ⟨b, o + k * 5 + 3, none⟩ = some (.int .i64 xt) ∧ w'.cell? ⟨b, o + k * 5 + 4, none⟩ = some (.string xx))) (fun _ => false) (by kernel_rfl) ⟨⟨j0, j1, j2, j3, j4⟩, g0, g1, g2, g3, g4⟩ (fun hHeld => ?_)
        refine wpAnyT_take2 (i := 0) (v := ?_) rfl rfl (by kernel_rfl) (by kernel_rfl) (by kernel_rfl) (by kernel_rfl) (fun _ _ _ h => h) (Or.inl ⟨by rfl, ?_⟩) (by first | assumption | trivial) ?_
        rotate_left
        · (intro w hSw; (try dsimp only at hSw); go_simp) <;> (with_reducible rfl)
        simp only [List.setIfInBounds_toArray, List.set_cons_zero, List.set_cons_succ]
        refine wpAnyT_take2 (i := 1) (v := ?_) rfl rfl (by kernel_rfl) (by kernel_rfl) (by kernel_rfl) (by kernel_rfl) (fun _ _ _ h => h) (Or.inl ⟨by rfl, ?_⟩) (by first | assumption | trivial) ?_
        rotate_left
        · (intro w hSw; (try dsimp only at hSw); go_simp) <;> (with_reducible rfl)
        simp only [List.setIfInBounds_toArray, List.set_cons_zero, List.set_cons_succ]
        refine wpAnyT_take2 (i := 2) (v := ?_) rfl rfl (by kernel_rfl) (by kernel_rfl) (by kernel_rfl) (by kernel_rfl) (fun _ _ _ h => h) (Or.inl ⟨by rfl, ?_⟩) (by first | assumption | trivial) ?_
        rotate_left
        · (intro w hSw; (try dsimp only at hSw); go_simp) <;> (with_reducible rfl)
        simp only [List.setIfInBounds_toArray, List.set_cons_zero, List.set_cons_succ]
        refine wpAnyT_take2 (i := 3) (v := ?_) rfl rfl (by kernel_rfl) (by kernel_rfl) (by kernel_rfl) (by kernel_rfl) (fun _ _ _ h => h) (Or.inl ⟨by rfl, ?_⟩) (by first | assumption | trivial) ?_
        rotate_left
        · (intro w hSw; (try dsimp only at hSw); go_simp) <;> (with_reducible rfl)
        simp only [List.setIfInBounds_toArray, List.set_cons_zero, List.set_cons_succ]
        refine wpAnyT_take2 (i := 4) (v := ?_) rfl rfl (by kernel_rfl) (by kernel_rfl) (by kernel_rfl) (by kernel_rfl) (fun _ _ _ h => h) (Or.inl ⟨by rfl, ?_⟩) (by first | assumption | trivial) ?_
        rotate_left
        · (intro w hSw; (try dsimp only at hSw); go_simp) <;> (with_reducible rfl)
        simp only [List.setIfInBounds_toArray, List.set_cons_zero, List.set_cons_succ]
        refine wpAnyT_take2 (i := 5) (v := ?_) rfl rfl (by kernel_rfl) (by kernel_rfl) (by kernel_rfl) (by kernel_rfl) (fun _ _ _ h => h) (Or.inl ⟨by rfl, ?_⟩) (by first | assumption | trivial) ?_
        rotate_left
        · (intro w hSw; (try dsimp only at hSw); go_simp) <;> (with_reducible rfl)
        simp only [List.setIfInBounds_toArray, List.set_cons_zero, List.set_cons_succ]
        refine wpAnyT_take2 (i := 6) (v := ?_) rfl rfl (by kernel_rfl) (by kernel_rfl) (by kernel_rfl) (by kernel_rfl) (fun _ _ _ h => h) (Or.inl ⟨by rfl, ?_⟩) (by first | assumption | trivial) ?_
        rotate_left
        · (intro w hSw; (try dsimp only at hSw); go_simp) <;> (with_reducible rfl)
        simp only [List.setIfInBounds_toArray, List.set_cons_zero, List.set_cons_succ]
        refine wpAnyT_take2 (i := 7) (v := ?_) rfl rfl (by kernel_rfl) (by kernel_rfl) (by kernel_rfl) (by kernel_rfl) (fun _ _ _ h => h) (Or.inl ⟨by rfl, ?_⟩) (by first | assumption | trivial) ?_
        rotate_left
        · (intro w hSw; (try dsimp only at hSw); go_simp) <;> (with_reducible rfl)
        simp only [List.setIfInBounds_toArray, List.set_cons_zero, List.set_cons_succ]
        clear hHeld
        refine wpAnyT_next (i := 8) (by kernel_rfl) rfl ?_
        go_wp2_with fail
        refine (rsame ⟨yd, yq, ⟨yA, yc, yl⟩, yt, yx⟩ ⟨xd, xq, ⟨xA, xc, xl⟩, xt, xx⟩ _ (HYA.out.below' (by repeat (first | (with_reducible exact Below.refl _ _) | ((with_reducible refine below_setr ?_ ?_); focus (first | (simp; done) | (simp; omega) | omega)) | ((with_reducible refine below_allocr ?_ ?_); focus (first | (simp; done) | (simp; omega) | omega)) | (with_reducible refine Below.drew ?_) | (with_reducible refine below_drewN ?_ _))) (Nat.le_refl _)) (HXA.out.below' (by repeat (first | (with_reducible exact Below.refl _ _) | ((with_reducible refine below_setr ?_ ?_); focus (first | (simp; done) | (simp; omega) | omega)) | ((with_reducible refine below_allocr ?_ ?_); focus (first | (simp; done) | (simp; omega) | omega)) | (with_reducible refine Below.drew ?_) | (with_reducible refine below_drewN ?_ _))) (Nat.le_refl _))).mono ?_
        rintro e w6 ⟨rfl, hb6⟩
        have hBW : Below wr.heap.size wr w6 := (by repeat (first | (with_reducible exact Below.refl _ _) | ((with_reducible refine below_setr ?_ ?_); focus (first | (simp; done) | (simp; omega) | omega)) | ((with_reducible refine below_allocr ?_ ?_); focus (first | (simp; done) | (simp; omega) | omega)) | (with_reducible refine Below.drew ?_) | (with_reducible refine below_drewN ?_ _) | ((with_reducible apply below_via); focus (with_reducible assumption))))
        generalize hsm : NoteD.same (Note.d ⟨yd, yq, ⟨yA, yc, yl⟩, yt, yx⟩) (Note.d ⟨xd, xq, ⟨xA, xc, xl⟩, xt, xx⟩) = sm
        have HSM := Lib.hid hsm
        clear hsm hb6
        go_wp2_with fail
        refine ⟨(by first | exact ⟨⟨keep_cell hBW j0, keep_cell hBW j1, keep_cell hBW j2, keep_cell hBW j3, keep_cell hBW j4⟩, keep_cell hBW g0, keep_cell hBW g1, keep_cell hBW g2, keep_cell hBW g3, keep_cell hBW g4⟩ | exact fun _ => ⟨⟨keep_cell hBW j0, keep_cell hBW j1, keep_cell hBW j2, keep_cell hBW j3, keep_cell hBW j4⟩, keep_cell hBW g0, keep_cell hBW g1, keep_cell hBW g2, keep_cell hBW g3, keep_cell hBW g4⟩), ?_⟩
        have hHeld := And.intro (And.intro (keep_cell hBW j0) (And.intro (keep_cell hBW j1) (And.intro (keep_cell hBW j2) (And.intro (keep_cell hBW j3) (keep_cell hBW j4))))) (And.intro (keep_cell hBW g0) (And.intro (keep_cell hBW g1) (And.intro (keep_cell hBW g2) (And.intro (keep_cell hBW g3) (keep_cell hBW g4)))))
        refine wpAnyT_take2 (i := 9) (v := ?_) rfl rfl (by kernel_rfl) (by kernel_rfl) (by kernel_rfl) (by kernel_rfl) (fun _ _ _ h => h) (Or.inl ⟨by rfl, ?_⟩) (by first | assumption | trivial) ?_
        rotate_left
        · (intro w hSw; (try dsimp only at hSw); go_simp) <;> (with_reducible rfl)
        simp only [List.setIfInBounds_toArray, List.set_cons_zero, List.set_cons_succ]
        refine wpAnyT_done (by kernel_rfl) ?_ _
        clear hHeld j0 j1 j2 j3 j4 g0 g1 g2 g3 g4
        rcases sm with _ | _
        · have hst : resR (foldR [] ((sl ++ tl).map Note.d)) = ([], 23) := by rw [HEQ.out, RInv.stop HFO.out HAT.out HSM.out]; rfl
          have HST := Lib.hid hst
          have hBF : Below w.heap.size w w6 := (hB4.trans (HI.out.bel.mono hB4.size)).trans (hBW.mono (Nat.le_trans hB4.size HI.out.bel.size))
          clear hst
          go_wp2_with fail
          try simp only [Exit.inBlock, Exit.then]
          refine bodyPost_ret (v := .tuple #[.slice none 0 0, .int .i64 23]) ?_ rfl (RMergeP.no (E := 23) rfl HST.out hBF)
          simp [results, Try.results36, go_sem, ]
        · go_wp2_with fail
          go_roundw
          case rel => exact ⟨k + 1, _, OC, ol, by omega, by simp [Act.eval, go_sem], by go_num, RInv.skip (HI.out.below hBW) HFO.out HAT.out HSM.out⟩
          case measure => simp [intOf]; omega
    · have hkl : (all.map Note.d).drop k = [] := List.drop_eq_nil_of_le (by simp; omega)
      have hfo := hI.fold
      rw [hkl, foldR] at hfo
      have hol : ol.length ≤ 10000 := by have := hI.len; omega
      have hol' : (ol.length : Int) ≤ 10000 := by omega
      have hlt2 : ¬ ((k : Int) < (sl.length : Int) + (tl.length : Int)) := by have := HLL.out; omega
      have hBF : Below w.heap.size w wr := hB4.trans (hI.bel.mono hB4.size)
      have hfin : RMergeP w (resR (foldR [] ((sl ++ tl).map Note.d))) (.returned (.tuple #[.slice OA ol.length OC, .int .i64 0])) wr := by
        rw [HEQ.out, hfo]
        refine ⟨⟨OA, OC, ol⟩, rfl, rfl, ⟨?_, fun n hn => ?_⟩, hBF⟩
        · exact (hI.own.rd Note.k).mono (fun b hb => hb.2)
        · exact (AFS.out n (hI.mem n hn)).below' hBF (Nat.le_refl _)
      have hfin2 := hfin
      rw [List.map_append] at hfin2
      have HFIN := Lib.hid hfin
      have HFIN2 := Lib.hid hfin2
      clear hkl hfo hI hfin hfin2 hlt
      go_wp2_with fail
      try simp only [Exit.inBlock, Exit.then]
      refine bodyPost_ret (v := .tuple #[.slice OA ol.length OC, .int .i64 0]) ?_ rfl (by first | exact HFIN.out | exact HFIN2.out)
      simp [results, Try.results36, go_sem, ]
theorem rmerge (s t : Sl Note) (w : World) (hs : RdNotes (· < w.heap.size) w s) (ht : RdNotes (· < w.heap.size) w t) (hlen : s.l.length + t.l.length ≤ 10000) :
    Calls Try.prog 36 #[.slice s.A s.l.length s.c, .slice t.A t.l.length t.c] w fun e w' => RMergeP w (mergeN (s.l.map Note.d) (t.l.map Note.d)) e w' := by
  rcases h1 : notesR (s.l.map Note.d)
  · exact rmerge_no s t w hs ht (by rw [h1]; rfl)
  · rcases h2 : notesR (t.l.map Note.d)
    · exact rmerge_no s t w hs ht (by rw [h1, h2]; rfl)
    · exact rmerge_yes s t w hs ht h1 h2 hlen
end Go.Proofs.Ythnblhbdfpmolaa
