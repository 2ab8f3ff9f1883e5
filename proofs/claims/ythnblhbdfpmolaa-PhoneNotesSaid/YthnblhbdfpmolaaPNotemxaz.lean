/- Walk of merge.Merge. -/
import Derived.Test.YthnblhbdfpmolaaPNotemxaw
import Derived.Test.YthnblhbdfpmolaaPNotemxay
import Derived.Test.YthnblhbdfpmolaaPNotemxac
namespace Go.Proofs.Ythnblhbdfpmolaa
open Go.RowKit
/-- What merge.Merge has taken in so far, as its map holds it. -/
def mapN (l : List Note) : List ((Int × Int) × Value) := l.map fun n => ((n.dev, n.seq), n.v)
def resN : Option (List NoteD) → List NoteD × Int
  | none => ([], 23)
  | some o => (sortN o, 0)
/-- The results: a list and an error. -/
def MergeP (w : World) (r : List NoteD × Int) (e : Ending) (w' : World) : Prop :=
  ∃ x : Sl Note, e = .returned (.tuple #[.slice x.A x.l.length x.c, .int .i64 r.2]) ∧ x.l.map Note.d = r.1 ∧ RdNotes (fun b => w.heap.size ≤ b ∧ b < w'.heap.size) w' x ∧ Below w.heap.size w w'
theorem MergeP.no {w w' : World} {r : List NoteD × Int} {E : Int} {e : Ending} (he : e = .returned (.tuple #[.slice none 0 0, .int .i64 E])) (hr : r = ([], E)) (hb : Below w.heap.size w w') : MergeP w r e w' := by
  subst hr
  exact ⟨⟨none, 0, []⟩, he, rfl, ⟨Rd.nil _ _ _ _, fun n hn => by cases hn⟩, hb⟩
set_option maxHeartbeats 600000 in
theorem merge_no (s t : Sl Note) (w : World) (hs : RdNotes (· < w.heap.size) w s) (ht : RdNotes (· < w.heap.size) w t) (h : (notesR (s.l.map Note.d) && notesR (t.l.map Note.d)) = false) :
    Calls Try.prog 35 #[.slice s.A s.l.length s.c, .slice t.A t.l.length t.c] w fun e w' => MergeP w (mergeN (s.l.map Note.d) (t.l.map Note.d)) e w' := by
  have hv : mergeN (s.l.map Note.d) (t.l.map Note.d) = ([], 1) := by unfold mergeN; rw [h]; rfl
  rw [hv]
  clear hv
  have HS := Lib.hid hs
  have HT := Lib.hid ht
  clear hs ht
  rcases h1 : notesR (s.l.map Note.d)
  · have H1 := Lib.hid h1
    clear h h1
    obtain ⟨sA, sc, sl⟩ := s
    obtain ⟨tA, tc, tl⟩ := t
    simp only
    go_enter Try.func35, Try.ntmps35
    go_wp2_with fail
    refine (merge_right ⟨sA, sc, sl⟩ w HS.out).mono ?_
    rintro e w1 ⟨rfl, hb1⟩
    rw [H1.out]
    go_wp2_with fail
    try simp only [Exit.inBlock, Exit.then]
    refine bodyPost_ret (v := .tuple #[.slice none 0 0, .int .i64 1]) ?_ rfl (MergeP.no (E := 1) rfl rfl qbv)
    simp [results, Try.results35, go_sem, ]
  · have h2 : notesR (t.l.map Note.d) = false := by rw [h1] at h; exact h
    have H1 := Lib.hid h1
    have H2 := Lib.hid h2
    clear h h1 h2
    obtain ⟨sA, sc, sl⟩ := s
    obtain ⟨tA, tc, tl⟩ := t
    simp only
    go_enter Try.func35, Try.ntmps35
    go_wp2_with fail
    refine (merge_right ⟨sA, sc, sl⟩ w HS.out).mono ?_
    rintro e w1 ⟨rfl, hb1⟩
    rw [H1.out]
    go_wp2_with fail
    refine (merge_right ⟨tA, tc, tl⟩ w1 (HT.out.later hb1 (Nat.le_refl _))).mono ?_
    rintro e w2 ⟨rfl, hb2⟩
    rw [H2.out]
    go_wp2_with fail
    try simp only [Exit.inBlock, Exit.then]
    refine bodyPost_ret (v := .tuple #[.slice none 0 0, .int .i64 1]) ?_ rfl (MergeP.no (E := 1) rfl rfl qbv)
    simp [results, Try.results35, go_sem, ]
theorem key_one {l : List Note} (h : (l.map Note.d).Pairwise ApartN) {m o : Note} (hm : m ∈ l) (ho : o ∈ l) (hd : m.dev = o.dev) (hq : m.seq = o.seq) : m = o := by
  rw [List.pairwise_map, List.pairwise_iff_getElem] at h
  obtain ⟨i, hi, rfl⟩ := List.mem_iff_getElem.1 hm
  obtain ⟨j, hj, rfl⟩ := List.mem_iff_getElem.1 ho
  rcases Nat.lt_trichotomy i j with hij | hij | hij
  · exact absurd ⟨hd, hq⟩ (h i j hi hj hij)
  · subst hij; rfl
  · exact absurd ⟨hd.symm, hq.symm⟩ (h j i hj hi hij)
/-- What the loop of merge.Merge keeps. -/
structure MInv (w w3 wr : World) (g0 : Nat) (all : List NoteD) (k : Nat) (OA : Option Addr) (OC : Nat) (ol : List Note) : Prop where
  own : Own w3.heap.size 61 5 Note.enc wr ⟨OA, OC, ol⟩
  map : MapB wr g0 (mapN ol)
  bel : Below w.heap.size w wr
  row : ∀ b, b ≠ g0 → b < w3.heap.size → wr.heap[b]? = w3.heap[b]?
  afs : ∀ n, n ∈ ol → Rd (fun b => w3.heap.size ≤ b ∧ b < wr.heap.size ∧ some b ≠ (Value.slice OA ol.length OC).ownBlock) 1 ienc wr n.af
  sz : w3.heap.size ≤ wr.heap.size
  fold : foldP [] all = foldP (ol.map Note.d) (all.drop k)
  apart : (ol.map Note.d).Pairwise ApartN
  right : ∀ n, n ∈ ol → n.d.right = true
  len : ol.length ≤ k
section
variable {w w3 wr : World} {g0 : Nat} {all : List NoteD} {k : Nat} {OA : Option Addr} {OC : Nat} {ol : List Note}
theorem MInv.below {w4 : World} (h : MInv w w3 wr g0 all k OA OC ol) (hb : Below wr.heap.size wr w4) : MInv w w3 w4 g0 all k OA OC ol where
  own := h.own.below hb
  map := h.map.later hb
  bel := h.bel.trans (hb.mono h.bel.size)
  row b h1 h2 := (hb.block b (Nat.lt_of_lt_of_le h2 h.sz)).trans (h.row b h1 h2)
  afs n hn := ((h.afs n hn).keep (fun b hb' => hb.block b hb'.2.1)).mono (fun b hb' => ⟨hb'.1, Nat.lt_of_lt_of_le hb'.2.1 hb.size, hb'.2.2⟩)
  sz := Nat.le_trans h.sz hb.size
  fold := h.fold
  apart := h.apart
  right := h.right
  len := h.len
theorem find_d (ol : List Note) (d q : Int) : (ol.map Note.d).find? (isK d q) = (ol.find? (fun m => isK d q m.d)).map Note.d := by
  rw [List.find?_map]; rfl
theorem MInv.skip {x o : NoteD} (h : MInv w w3 wr g0 all k OA OC ol) (hfo : foldP [] all = foldP (ol.map Note.d) (x :: all.drop (k + 1))) (hf : (ol.map Note.d).find? (isK x.dev x.seq) = some o) (hs : o.same x = true) : MInv w w3 wr g0 all (k + 1) OA OC ol where
  own := h.own
  map := h.map
  bel := h.bel
  row := h.row
  afs := h.afs
  sz := h.sz
  fold := by rw [hfo, foldP, hf]; simp [hs]
  apart := h.apart
  right := h.right
  len := Nat.le_succ_of_le h.len
theorem MInv.stop {x o : NoteD} (hfo : foldP [] all = foldP (ol.map Note.d) (x :: all.drop (k + 1))) (hf : (ol.map Note.d).find? (isK x.dev x.seq) = some o) (hs : o.same x = false) : foldP [] all = none := by
  rw [hfo, foldP, hf]; simp [hs]
theorem MInv.add {w6 : World} {OA' : Option Addr} {OC' m : Nat} {y : Note} (h : MInv w w3 wr g0 all k OA OC ol) (hg : g0 < w3.heap.size) (hown : Own w3.heap.size 61 5 Note.enc w6 ⟨OA', OC', ol ++ [y]⟩) (hmap : MapB w6 g0 (mapN ol ++ [((y.dev, y.seq), y.v)]))
    (hkeep : ∀ b, b < wr.heap.size → b ≠ g0 → some b ≠ (Value.slice OA ol.length OC).ownBlock → w6.heap[b]? = wr.heap[b]?) (hbel : Below w.heap.size w w6) (hsz : wr.heap.size ≤ w6.heap.size)
    (hm1 : wr.heap.size ≤ m) (hm2 : m ≤ w6.heap.size) (hat : OA' = OA ∨ ∃ q, OA' = some ⟨q, 0, none⟩ ∧ m ≤ q) (haf : Rd (fun b => wr.heap.size ≤ b ∧ b < m) 1 ienc w6 y.af)
    (hfo : foldP [] all = foldP (ol.map Note.d) (y.d :: all.drop (k + 1))) (hf : (ol.map Note.d).find? (isK y.dev y.seq) = none) (hr : y.d.right = true) : MInv w w3 w6 g0 all (k + 1) OA' OC' (ol ++ [y]) := by
  have hform : ∀ q, some q = (Value.slice OA ol.length OC).ownBlock → w3.heap.size ≤ q ∧ q < wr.heap.size := by
    intro q hq
    rcases h.own.form with ⟨hA, _⟩ | ⟨q', hA, h1, h2, _⟩
    · simp only at hA; subst hA; cases hq
    · simp only at hA; subst hA; simp only [Value.ownBlock, Option.some.injEq] at hq; subst hq; exact ⟨h1, h2⟩
  have hnew : ∀ b, (some b ≠ (Value.slice OA ol.length OC).ownBlock ∧ b < wr.heap.size ∨ (wr.heap.size ≤ b ∧ b < m)) → some b ≠ (Value.slice OA' (ol ++ [y]).length OC').ownBlock := by
    intro b hb hc
    rcases hat with hat | ⟨q, hat, hq1⟩
    · subst hat
      have hob : (Value.slice OA' (ol ++ [y]).length OC').ownBlock = (Value.slice OA' ol.length OC).ownBlock := by cases OA' <;> rfl
      rw [hob] at hc
      rcases hb with ⟨hb, _⟩ | ⟨hb, _⟩
      · exact hb hc
      · have := (hform b hc).2; omega
    · subst hat
      simp only [Value.ownBlock, Option.some.injEq] at hc
      subst hc
      rcases hb with ⟨_, hb⟩ | ⟨_, hb⟩ <;> omega
  refine ⟨hown, ?_, hbel, fun b h1 h2 => ?_, fun n hn => ?_, Nat.le_trans h.sz hsz, ?_, ?_, fun n hn => ?_, ?_⟩
  · simpa [mapN] using hmap
  · refine (hkeep b (Nat.lt_of_lt_of_le h2 h.sz) h1 (fun hc => ?_)).trans (h.row b h1 h2)
    have := (hform b hc).1; omega
  · rcases List.mem_append.1 hn with hn | hn
    · refine ((h.afs n hn).keep (fun b hb => hkeep b hb.2.1 (by have := hb.1; omega) hb.2.2)).mono (fun b hb => ⟨hb.1, Nat.lt_of_lt_of_le hb.2.1 hsz, hnew b (.inl ⟨hb.2.2, hb.2.1⟩)⟩)
    · rw [List.mem_singleton.1 hn]
      exact haf.mono (fun b hb => ⟨Nat.le_trans h.sz hb.1, by omega, hnew b (.inr hb)⟩)
  · rw [hfo, foldP, show (ol.map Note.d).find? (isK y.d.dev y.d.seq) = none from hf, List.map_append]; rfl
  · rw [List.map_append]
    exact apart_snoc h.apart (find_no (n := y.d) hf)
  · rcases List.mem_append.1 hn with hn | hn
    · exact h.right n hn
    · rw [List.mem_singleton.1 hn]; exact hr
  · simp only [List.length_append, List.length_singleton]; have := h.len; omega
end
set_option maxHeartbeats 1000000 in
theorem merge_yes (s t : Sl Note) (w : World) (hs : RdNotes (· < w.heap.size) w s) (ht : RdNotes (· < w.heap.size) w t) (h1 : notesR (s.l.map Note.d) = true) (h2 : notesR (t.l.map Note.d) = true) (hlen : s.l.length + t.l.length ≤ 10000) :
    Calls Try.prog 35 #[.slice s.A s.l.length s.c, .slice t.A t.l.length t.c] w fun e w' => MergeP w (mergeN (s.l.map Note.d) (t.l.map Note.d)) e w' := by
  have hv : mergeN (s.l.map Note.d) (t.l.map Note.d) = resN (foldP [] ((s.l ++ t.l).map Note.d)) := by unfold mergeN; rw [h1, h2, List.map_append]; rfl
  rw [hv]
  have hall : ∀ n, n ∈ s.l ++ t.l → n.d.right = true := by
    intro n hn
    simp only [notesR, Bool.and_eq_true, List.all_eq_true] at h1 h2
    rcases List.mem_append.1 hn with hn | hn
    · exact h1.2 _ (List.mem_map_of_mem (f := Note.d) hn)
    · exact h2.2 _ (List.mem_map_of_mem (f := Note.d) hn)
  have HS := Lib.hid hs
  have HT := Lib.hid ht
  have H1 := Lib.hid h1
  have H2 := Lib.hid h2
  have HALL := Lib.hid hall
  clear hs ht hv h1 h2 hall
  obtain ⟨sA, sc, sl⟩ := s
  obtain ⟨tA, tc, tl⟩ := t
  simp only at hlen
  have hmm := @run_makeMap Try.prog
  simp only
  go_enter Try.func35, Try.ntmps35
  go_wp2_with fail
  refine (merge_right ⟨sA, sc, sl⟩ w HS.out).mono ?_
  rintro e w1 ⟨rfl, hb1⟩
  rw [H1.out]
  go_wp2_with fail
  refine (merge_right ⟨tA, tc, tl⟩ w1 (HT.out.later hb1 (Nat.le_refl _))).mono ?_
  rintro e w2 ⟨rfl, hb2⟩
  rw [H2.out]
  have hB2 : Below w.heap.size w w2 := qbv
  have z2 : w.heap.size ≤ w2.heap.size := hB2.size
  clear hb1 hb2
  go_wp2_with fail
  refine (concat_note ⟨sA, sc, sl⟩ ⟨tA, tc, tl⟩ (w2.heap.size + 1) _ (Blk.new' (by simp)) (HS.out.1.below' qbh (Nat.le_refl _)) (HT.out.1.below' qbh (Nat.le_refl _)) (by simp only; omega)).mono ?_
  rintro e w3 ⟨A, c, rfl, hown3, hb3⟩
  have hB3 : Below w.heap.size w w3 := qbv
  have hM3 : MapB w3 w2.heap.size [] := ((MapB.made w2).alloc _).later hb3
  have hrow := hown3.rd Note.k
  have hz3 : w2.heap.size + 2 ≤ w3.heap.size := by have := hb3.size; simp at this; omega
  have hROW : Rd (fun b => b ≠ w2.heap.size ∧ b < w3.heap.size) 5 Note.enc w3 ⟨A, c, sl ++ tl⟩ := hrow.mono (fun b hb => by simp at hb; omega)
  have hAF : ∀ n, n ∈ sl ++ tl → Rd (· < w.heap.size) 1 ienc w n.af := fun n hn => by
    rcases List.mem_append.1 hn with hn | hn
    · exact HS.out.2 n hn
    · exact HT.out.2 n hn
  have hlL : (sl ++ tl).length ≤ 10000 := by simpa using hlen
  clear hrow hown3 hb3 HS HT hlen
  have ROW := Lib.hid hROW
  have AFS := Lib.hid hAF
  have M3 := Lib.hid hM3
  clear hROW hAF hM3
  simp only at HALL ⊢
  generalize heq : sl ++ tl = all at *
  have HEQ := Lib.hid heq
  clear heq
  go_wp2_with fail
  go_loopw [7, 27] (fun o i wr => ∃ (k : Nat) (OA : Option Addr) (OC : Nat) (ol : List Note), k ≤ all.length ∧ o = .slice OA ol.length OC ∧ i = .int .i64 k ∧ MInv w w3 wr w2.heap.size (all.map Note.d) k OA OC ol) (fun _ i _ => all.length - (intOf i).toNat)
  case atStart => exact ⟨0, none, 0, [], by omega, rfl, rfl, Own.nil _ _ _ _ _, M3.out, hB3, fun _ _ _ => rfl, fun n hn => (by cases hn), Nat.le_refl _, by simp, List.Pairwise.nil, fun n hn => (by cases hn), Nat.le_refl _⟩
  case round =>
    obtain ⟨k, OA, OC, ol, hk, rfl, rfl, hI⟩ := hrel
    by_cases hlt : k < all.length
    · obtain ⟨b, o, rfl, hb, hcl⟩ := ROW.out.at1 hlt
      obtain ⟨g0, g1, g2, g3, g4⟩ := Cells.c5 (hcl.keep (hI.row b hb.1 hb.2))
      have hxm : all[k] ∈ all := List.getElem_mem hlt
      have hd : (all.map Note.d).drop k = all[k].d :: (all.map Note.d).drop (k + 1) := by rw [List.drop_eq_getElem_cons (by simpa using hlt)]; simp
      have hfold := hI.fold
      rw [hd] at hfold
      have hr := HALL.out _ hxm
      have haf := (AFS.out _ hxm).below' hI.bel (Nat.le_refl _)
      clear hcl hd
      generalize all[k] = x at *
      obtain ⟨xd, xq, ⟨xA, xc, xl⟩, xt, xx⟩ := x
      have hrg := right_rng hr
      simp only [Note.d] at hrg
      have hID : I64 xd := by unfold I64; omega
      have hIQ : I64 xq := by unfold I64; omega
      have HI := Lib.hid hI
      have HFO := Lib.hid hfold
      have HAF := Lib.hid haf
      have HR := Lib.hid hr
      have HRG := Lib.hid hrg
      clear hI hfold haf hr hrg
      rcases hf : ol.find? (fun m => isK xd xq m.d) with _ | old
      · have hno : ∀ p, p ∈ mapN ol → p.1 ≠ (xd, xq) := by
          intro p hp hc
          obtain ⟨m, hm, rfl⟩ := List.mem_map.1 hp
          rw [List.find?_eq_none] at hf
          simp only [Prod.mk.injEq] at hc
          exact hf m hm (isK_iff.2 hc)
        have HNO := Lib.hid hno
        have HF := Lib.hid hf
        clear hno hf
        have glt := HI.out.map.lt
        go_wp2_with (at_lookup; refine wpl_look_no rfl (.tmp 37) (.tmp 38) 113 rfl 61 _ Try.underlying113 Try.zeroValue61 (by repeat (first | (with_reducible exact HI.out.map) | ((with_reducible refine mapB_setr ?_ ?_); focus (first | (simp; done) | (simp; omega) | omega)) | (with_reducible refine mapB_allocr ?_))) rfl rfl hID hIQ HNO.out ?_)
        have hlx : xl.length ≤ 12 := HRG.out.2.2.2
        refine (clone_int ⟨xA, xc, xl⟩ _ (HAF.out.below' qbl (Nat.le_refl _)) (by simp only; omega)).mono ?_
        rintro e w4 ⟨A4, c4, rfl, hown4, hb4⟩
        have hM4 : MapB w4 w2.heap.size (mapN ol) := MapB.later (by repeat (first | (with_reducible exact HI.out.map) | ((with_reducible refine mapB_setr ?_ ?_); focus (first | (simp; done) | (simp; omega) | omega)) | (with_reducible refine mapB_allocr ?_))) hb4
        have l0 : wr.heap.size < wr.heap.size + 1 + 1 := by omega
        have K_a : Blk _ (wr.heap.size) 61 #[.int .i64 xd, .int .i64 xq, .slice xA xl.length xc, .int .i64 xt, .string xx] := blk_later hb4 (by simp [hp_past, hp_at, hp_other, hp_same, hp_drew, hp_drewN, l0])
        obtain ⟨a0, a1, a2, a3, a4, af, az⟩ := Blk.b5 K_a
        have B_a := Lib.hid K_a
        clear K_a
        have K_q : Blk _ (wr.heap.size + 1) 116 #[.int .i64 xd, .int .i64 xq] := qkb hb4
        obtain ⟨q0, q1, qf, qz⟩ := Blk.b2 K_q
        have B_q := Lib.hid K_q
        clear K_q
        have hz4 : wr.heap.size + 3 ≤ w4.heap.size := by have := hb4.size; simp at this; omega
        have hBW4 : Below wr.heap.size wr w4 := qbv
        have HO4 := Lib.hid hown4
        clear hown4 hb4 g0 g1 g2 g3 g4
        have g2l : w2.heap.size < wr.heap.size := glt
        have hnl : w2.heap.size ≠ wr.heap.size := by omega
        go_wp2_with (at_mapUpdate; refine wpl_store_new rfl (.tmp 55) (.tmp 56) (.tmp 57) 113 rfl 61 (Note.v ⟨xd, xq, ⟨A4, c4, xl⟩, xt, xx⟩) Try.underlying113 (by repeat (first | (with_reducible exact hM4) | ((with_reducible refine mapB_setr ?_ ?_); focus (first | (simp; done) | (simp; omega) | omega)) | (with_reducible refine mapB_allocr ?_))) rfl rfl rfl hID hIQ HNO.out ?_; intro w5 hM5 hg5; apply Hid.out)
        refine Lib.hid ?_
        have hne5 : some w2.heap.size ≠ some wr.heap.size := by simp; omega
        have hz3r := HI.out.sz
        have K_a : Blk _ (wr.heap.size) 61 #[.int .i64 xd, .int .i64 xq, .slice A4 xl.length c4, .int .i64 xt, .string xx] := blk_grown hg5 (by simp [hp_past, hp_at, hp_other, hp_same, hp_drew, hp_drewN, B_a.out.eq, B_a.out.lt, hp_same B_a.out.eq]) hne5
        obtain ⟨a0, a1, a2, a3, a4, af, az⟩ := Blk.b5 K_a
        have B_a := Lib.hid K_a
        clear K_a
        have hz5 : w4.heap.size ≤ w5.heap.size := by have := hg5.size; simpa using this
        have hk5 : ∀ b, b < w4.heap.size → b ≠ w2.heap.size → b ≠ wr.heap.size → w5.heap[b]? = w4.heap[b]? := fun b h1 h2 h3 => (hg5.block b (by simpa using h1) (by simpa using h2)).trans (Below.heap_setCell w4 _ _ b (by simpa using h3))
        have hBW5 : Below w.heap.size w w5 := Below.grown (Below.setCell (HI.out.bel.trans (hBW4.mono HI.out.bel.size)) (by simpa using HI.out.bel.size) _) hg5 (by simp; omega) (by simp; omega)
        have hown5 : Own w3.heap.size 61 5 Note.enc w5 ⟨OA, OC, ol⟩ := by
          have hf := HI.out.own.form
          have hlt := HI.out.own.bound
          refine Own.kept ((HI.out.own.below hBW4).other (fun g hg => ?_) _) hg5 ?_
          · have := hlt g hg; simp; omega
          · rcases hf with ⟨hA, _⟩ | ⟨g, hA, h1, _⟩
            · simp only at hA; subst hA; exact .inl rfl
            · simp only at hA; subst hA; right; simp [Value.ownBlock]; omega
        have M5 := Lib.hid hM5
        have HO5 := Lib.hid hown5
        have HK5 := Lib.hid hk5
        clear hM5 hown5 hk5 hg5 hM4
        have hlk := HI.out.len
        go_wp2_with (at_builtin; go_must (refine wpl_append_sl (base := w3.heap.size) _ rfl (.tmp 58) (.tmp 60) _ rfl Try.underlying23 infoNote (by omega) Note.k Note.one ⟨OA, OC, ol⟩ ⟨some ⟨w5.heap.size, 0, none⟩, 1, [⟨xd, xq, ⟨A4, c4, xl⟩, xt, xx⟩]⟩ rfl rfl (HO5.out.alloc _) ((Own.lit (base := w5.heap.size) w5 _ [⟨xd, xq, ⟨A4, c4, xl⟩, xt, xx⟩] (Nat.le_refl _) (by simp [maxLen]) rfl Note.k).rd Note.k) (by simp [maxLen]; omega) (by simp; omega) (by simp; omega) ?_); intro A6 c6 w6 hown6 hg6 hat6; apply Hid.out)
        refine Lib.hid ?_
        have hM6 : MapB w6 w2.heap.size (mapN ol ++ [((xd, xq), Note.v ⟨xd, xq, ⟨A4, c4, xl⟩, xt, xx⟩)]) := (M5.out.alloc _).grown hg6 (by
          rcases HI.out.own.form with ⟨hA, _⟩ | ⟨g, hA, h1, _⟩
          · simp only at hA; subst hA; simp [Value.ownBlock]
          · simp only at hA; subst hA; simp [Value.ownBlock]; omega)
        have hz6 : w5.heap.size + 1 ≤ w6.heap.size := by have := hg6.size; simpa using this
        have hBW6 : Below w.heap.size w w6 := Below.grown (hBW5.alloc hBW5.size _) hg6 (by have := hBW5.size; simp; omega) (by
          intro q hq
          rcases HI.out.own.form with ⟨hA, _⟩ | ⟨g, hA, h1, _⟩
          · simp only at hA; subst hA; cases hq
          · simp only at hA; subst hA; simp only [Value.ownBlock, Option.some.injEq] at hq; subst hq; have := hB3.size; omega)
        have hk6 : ∀ b, b < w5.heap.size → some b ≠ (Value.slice OA ol.length OC).ownBlock → w6.heap[b]? = w5.heap[b]? := fun b h1 h2 => (hg6.block b (by simp; omega) h2).trans (Below.heap_alloc w5 _ b h1)
        have haf6 : Rd (fun b => wr.heap.size ≤ b ∧ b < w4.heap.size) 1 ienc w6 ⟨A4, c4, xl⟩ := by
          have h1 := HO4.out.rd ienc_k
          refine (h1.keep (w' := w6) (fun b hb => ?_)).mono (fun b hb => ?_)
          · simp at hb
            refine (hk6 b (by omega) (fun hc => ?_)).trans (HK5.out b (by omega) (by omega) (by omega))
            rcases HI.out.own.form with ⟨hA, _⟩ | ⟨g, hA, h1, h2, _⟩
            · simp only at hA; subst hA; cases hc
            · simp only at hA; subst hA; simp only [Value.ownBlock, Option.some.injEq] at hc; omega
          · simp at hb; omega
        have hadd := MInv.add (y := ⟨xd, xq, ⟨A4, c4, xl⟩, xt, xx⟩) (w6 := w6) (OA' := A6) (OC' := c6) HI.out (by omega) hown6 hM6 (fun b h1 h2 h3 => (hk6 b (by omega) h3).trans ((HK5.out b (by omega) h2 (by omega)).trans (hBW4.block b h1))) hBW6 (by omega) (m := w4.heap.size) (by omega) (by omega) (by
          rcases hat6 with h | h
          · exact .inl h
          · exact .inr ⟨_, h, by simp; omega⟩) haf6 HFO.out (by rw [find_d]; simp only; rw [HF.out]; rfl) HR.out
        have HADD := Lib.hid hadd
        clear hown6 hM6 hk6 haf6 hadd hg6 hat6
        go_wp2_with fail
        go_roundw
        case rel => exact ⟨k + 1, A6, c6, _, by omega, by simp [Act.eval, go_sem], by go_num, HADD.out⟩
        case measure => simp [intOf]; omega
      · have hm := List.mem_of_find?_eq_some hf
        have hkk := List.find?_some hf
        simp only [isK_iff] at hkk
        have hfd : (ol.map Note.d).find? (isK xd xq) = some old.d := by rw [find_d, hf]; rfl
        have hright := HI.out.right _ hm
        have haf2 := ((HI.out.afs _ hm).mono (G := fun b => b < wr.heap.size) (fun b hb => hb.2.1))
        have hv : ((xd, xq), old.v) ∈ mapN ol := by
          have := List.mem_map_of_mem (f := fun n : Note => ((n.dev, n.seq), n.v)) hm
          simp only [show old.dev = xd from hkk.1, show old.seq = xq from hkk.2] at this
          exact this
        have hu : ∀ p, p ∈ mapN ol → p.1 = (xd, xq) → p.2 = old.v := by
          intro p hp hc
          obtain ⟨m, hm', rfl⟩ := List.mem_map.1 hp
          simp only [Prod.mk.injEq] at hc
          have := key_one HI.out.apart hm' hm (hc.1.trans (show old.dev = xd from hkk.1).symm) (hc.2.trans (show old.seq = xq from hkk.2).symm)
          simp only [this]
        obtain ⟨od, oq, ⟨oA, oc, oll⟩, ot, ox⟩ := old
        have hps : NoteD.psame (Note.d ⟨od, oq, ⟨oA, oc, oll⟩, ot, ox⟩) (Note.d ⟨xd, xq, ⟨xA, xc, xl⟩, xt, xx⟩) = NoteD.same (Note.d ⟨od, oq, ⟨oA, oc, oll⟩, ot, ox⟩) (Note.d ⟨xd, xq, ⟨xA, xc, xl⟩, xt, xx⟩) := NoteD.psame_same (right_rng hright).2.2.2 HRG.out.2.2.2
        have HV := Lib.hid hv
        have HU := Lib.hid hu
        have HPS := Lib.hid hps
        have HFD := Lib.hid hfd
        have HA2 := Lib.hid haf2
        clear hf hm hkk hfd hright hv hu hps haf2
        have glt := HI.out.map.lt
        have hlr := HI.out.bel.size
        simp only [Note.v] at HV HU
        have l0 : wr.heap.size < wr.heap.size + 1 + 1 := by omega
        rcases hsm : NoteD.same (Note.d ⟨od, oq, ⟨oA, oc, oll⟩, ot, ox⟩) (Note.d ⟨xd, xq, ⟨xA, xc, xl⟩, xt, xx⟩)
        · have HSM := Lib.hid hsm
          clear hsm
          go_wp2_with (at_lookup; refine wpl_look_yes rfl (.tmp 37) (.tmp 38) 113 rfl 61 (.agg #[.int .i64 od, .int .i64 oq, .slice oA oll.length oc, .int .i64 ot, .string ox]) Try.underlying113 (by repeat (first | (with_reducible exact HI.out.map) | ((with_reducible refine mapB_setr ?_ ?_); focus (first | (simp; done) | (simp; omega) | omega)) | (with_reducible refine mapB_allocr ?_))) rfl rfl hID hIQ HV.out HU.out ?_)
          refine (msame ⟨od, oq, ⟨oA, oc, oll⟩, ot, ox⟩ ⟨xd, xq, ⟨xA, xc, xl⟩, xt, xx⟩ _ (HA2.out.below' qbl (Nat.le_refl _)) (HAF.out.below' qbl (Nat.le_refl _))).mono ?_
          rintro e w4 ⟨rfl, hb4⟩
          rw [HPS.out, HSM.out]
          have hBW4 : Below wr.heap.size wr w4 := qbv
          have hBW : Below w.heap.size w w4 := HI.out.bel.trans (hBW4.mono hlr)
          clear hb4
          have hst : resN (foldP [] ((sl ++ tl).map Note.d)) = ([], 23) := by rw [HEQ.out, MInv.stop HFO.out HFD.out HSM.out]; rfl
          have HST := Lib.hid hst
          clear hst
          go_wp2_with fail
          try simp only [Exit.inBlock, Exit.then]
          refine bodyPost_ret (v := .tuple #[.slice none 0 0, .int .i64 23]) ?_ rfl (MergeP.no (E := 23) rfl HST.out hBW)
          simp [results, Try.results35, go_sem, ]
        · have HSM := Lib.hid hsm
          clear hsm
          go_wp2_with (at_lookup; refine wpl_look_yes rfl (.tmp 37) (.tmp 38) 113 rfl 61 (.agg #[.int .i64 od, .int .i64 oq, .slice oA oll.length oc, .int .i64 ot, .string ox]) Try.underlying113 (by repeat (first | (with_reducible exact HI.out.map) | ((with_reducible refine mapB_setr ?_ ?_); focus (first | (simp; done) | (simp; omega) | omega)) | (with_reducible refine mapB_allocr ?_))) rfl rfl hID hIQ HV.out HU.out ?_)
          refine (msame ⟨od, oq, ⟨oA, oc, oll⟩, ot, ox⟩ ⟨xd, xq, ⟨xA, xc, xl⟩, xt, xx⟩ _ (HA2.out.below' qbl (Nat.le_refl _)) (HAF.out.below' qbl (Nat.le_refl _))).mono ?_
          rintro e w4 ⟨rfl, hb4⟩
          rw [HPS.out, HSM.out]
          have hBW4 : Below wr.heap.size wr w4 := qbv
          clear hb4
          go_wp2_with fail
          go_roundw
          case rel => exact ⟨k + 1, OA, OC, ol, by omega, by simp [Act.eval, go_sem], by go_num, MInv.skip (HI.out.below hBW4) HFO.out HFD.out HSM.out⟩
          case measure => simp [intOf]; omega
    · have hkl : (all.map Note.d).drop k = [] := List.drop_eq_nil_of_le (by simp; omega)
      have hfo := hI.fold
      rw [hkl, foldP] at hfo
      have hol : ol.length ≤ 10000 := by have := hI.len; omega
      have hol' : (ol.length : Int) ≤ 10000 := by omega
      have HI := Lib.hid hI
      have HFO := Lib.hid hfo
      clear hkl hI hfo
      go_wp2_with fail
      refine (sort_note ⟨OA, OC, ol⟩ w3.heap.size _ HI.out.own (by simp only; omega)).mono ?_
      rintro e w4 ⟨rfl, l', hp, hs, hown4, hg4⟩
      have hll : l'.length = ol.length := hp.length_eq
      have hfin : MergeP w (resN (foldP [] ((sl ++ tl).map Note.d))) (.returned (.tuple #[.slice OA ol.length OC, .int .i64 0])) w4 := by
        rw [HEQ.out, HFO.out]
        refine ⟨⟨OA, OC, l'⟩, by rw [hll]; rfl, ?_, ⟨?_, fun n hn => ?_⟩, ?_⟩
        · refine sorted_is (hp.map Note.d) HI.out.apart ?_
          rw [List.pairwise_map]; exact hs
        · exact (hown4.rd Note.k).mono (fun b hb => ⟨Nat.le_trans (hB3.size) hb.1, hb.2⟩)
        · have hn' : n ∈ ol := hp.mem_iff.1 hn
          refine ((HI.out.afs n hn').keep (fun b hb => hg4.block b hb.2.1 hb.2.2)).mono (fun b hb => ⟨Nat.le_trans hB3.size hb.1, Nat.lt_of_lt_of_le hb.2.1 hg4.size⟩)
        · refine Below.grown HI.out.bel hg4 HI.out.bel.size (fun q hq => ?_)
          rcases HI.out.own.form with ⟨hA, _⟩ | ⟨g, hA, h1, _⟩
          · simp only at hA; subst hA; cases hq
          · simp only at hA; subst hA; simp only [Value.ownBlock, Option.some.injEq] at hq; subst hq; have := hB3.size; omega
      have HFIN := Lib.hid hfin
      clear hp hs hown4 hg4 hfin
      go_wp2_with fail
      try simp only [Exit.inBlock, Exit.then]
      refine bodyPost_ret (v := .tuple #[.slice OA ol.length OC, .int .i64 0]) ?_ rfl HFIN.out
      simp [results, Try.results35, go_sem, ]
theorem merge_note (s t : Sl Note) (w : World) (hs : RdNotes (· < w.heap.size) w s) (ht : RdNotes (· < w.heap.size) w t) (hlen : s.l.length + t.l.length ≤ 10000) :
    Calls Try.prog 35 #[.slice s.A s.l.length s.c, .slice t.A t.l.length t.c] w fun e w' => MergeP w (mergeN (s.l.map Note.d) (t.l.map Note.d)) e w' := by
  rcases h1 : notesR (s.l.map Note.d)
  · exact merge_no s t w hs ht (by rw [h1]; rfl)
  · rcases h2 : notesR (t.l.map Note.d)
    · exact merge_no s t w hs ht (by rw [h1, h2]; rfl)
    · exact merge_yes s t w hs ht h1 h2 hlen
end Go.Proofs.Ythnblhbdfpmolaa
