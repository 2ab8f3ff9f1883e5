/- Walk: the insertion sort that SortStableFunc comes to, with the closure of Bear. -/
import Derived.Test.YtjbdjlgddjmkbaaFvCl2
namespace Go.Proofs.Ytjbdjlgddjmkbaa
open Go.RowKit
theorem own_seti {base g c i : Nat} {w : World} {l : List Int} {n : Int} (h : Own base 3 1 ienc w ⟨some ⟨g, 0, none⟩, c, l⟩) (hi : i < l.length) :
    Own base 3 1 ienc (w.setCell ⟨g, i, none⟩ (.int .i64 n)) ⟨some ⟨g, 0, none⟩, c, l.set i n⟩ := by
  have := h.set ienc_k rfl (i := i) (j := 0) (x := l[i]) (y := n) (u := .int .i64 n) (List.getElem?_eq_getElem hi) (by omega) rfl
  simpa using this
theorem own_celli {base g c i : Nat} {w : World} {l : List Int} {x : Int} (h : Own base 3 1 ienc w ⟨some ⟨g, 0, none⟩, c, l⟩) (hx : l[i]? = some x) : w.cell? ⟨g, i, none⟩ = some (.int .i64 x) := by
  obtain ⟨b, o, hA, _, hc⟩ := (h.rd ienc_k).2.2.2 i x hx
  injection hA with hA
  injection hA with h1 h2
  subst h1 h2
  have := hc.c1
  simpa using this
theorem swap_mid {p r : List Int} {y x : Int} : ((p ++ y :: x :: r).set (p.length + 1) y).set p.length x = p ++ x :: y :: r := by
  rw [List.set_append_right _ _ (by omega), List.set_append_right _ _ (by omega)]
  simp
theorem ord_ins {L : List Bal} {p1 p2 : List Int} {x : Int} (h : OrdL L (p1 ++ p2)) (hlt : ∀ y ∈ p1, y < x) (h2 : ∀ y ∈ p2, ofL y L < ofL x L) (h1 : ∀ z, p1.getLast? = some z → ¬ ofL z L < ofL x L) : OrdL L (p1 ++ x :: p2) := by
  obtain ⟨a1, a2, a3⟩ := List.pairwise_append.1 h
  have hge : ∀ y ∈ p1, ofL x L ≤ ofL y L := fun y hy => by
    rcases List.eq_nil_or_concat p1 with rfl | ⟨q, z, rfl⟩
    · simp at hy
    · rw [List.concat_eq_append] at h1 a1 hy
      have hz := h1 z (by simp)
      obtain ⟨b1, b2, b3⟩ := List.pairwise_append.1 a1
      rcases List.mem_append.1 hy with hy | hy
      · have := b3 y hy z (by simp)
        rw [befB_iff] at this; omega
      · simp at hy; subst hy; omega
  refine List.pairwise_append.2 ⟨a1, List.pairwise_cons.2 ⟨fun y hy => ?_, a2⟩, fun y hy z hz => ?_⟩
  · have := h2 y hy; rw [befB_iff]; omega
  · rcases List.mem_cons.1 hz with rfl | hz
    · have := hge y hy; have := hlt y hy; rw [befB_iff]; omega
    · exact a3 y hy z hz
def ClsF (g : Nat) : Value := .func (.func 26) #[] #[.pointer (some ⟨g, 0, none⟩)]
set_option maxRecDepth 20000 in
set_option maxHeartbeats 3000000 in
theorem ins_any (base : Nat) (L : Sl Bal) (gb g c : Nat) (s : List Int) (w : World) (hown : Own base 3 1 ienc w ⟨some ⟨g, 0, none⟩, c, s⟩) (hL : Rd (· < base) 2 Bal.enc w L) (hgb : gb < base) (hc : w.cell? ⟨gb, 0, none⟩ = some (.slice L.A L.l.length L.c))
    (hbase : base ≤ w.heap.size) (hs : s.Pairwise (· < ·)) (hn : 1 ≤ s.length) (hm : s.length ≤ 1000) :
    Calls Try.prog 61 #[.slice (some ⟨g, 0, none⟩) s.length c, .int .i64 0, .int .i64 (s.length : Nat), .func (.func 26) #[] #[.pointer (some ⟨gb, 0, none⟩)]] w fun e w' => e = .returned (.tuple #[]) ∧ Own base 3 1 ienc w' ⟨some ⟨g, 0, none⟩, c, ordF L.l s⟩ ∧ Below base w w' := by
  have HO := Lib.hid hown
  have HL := Lib.hid hL
  have HC := Lib.hid hc
  have HS := Lib.hid hs
  have hnd : s.Nodup := hs.imp (fun h => by omega)
  have HND := Lib.hid hnd
  have hbg : base ≤ g := by
    rcases hown.form with ⟨h0, _⟩ | ⟨g', h0, h1, _⟩
    · cases h0
    · injection h0 with h0; injection h0 with h0; omega
  clear hown hL hc hs hnd
  go_enter Try.func61, Try.ntmps61
  go_wp2_with fail
  go_loopw [8] (fun i wr => ∃ (k : Nat) (p : List Int), 1 ≤ k ∧ k ≤ s.length ∧ i = .int .i64 k ∧ Hid (Own base 3 1 ienc wr ⟨some ⟨g, 0, none⟩, c, p ++ s.drop k⟩) ∧ Below base w wr ∧ Hid (p.Perm (s.take k)) ∧ Hid (OrdL L.l p)) (fun i _ => s.length - (intOf i).toNat)
  case atStart =>
    refine ⟨1, s.take 1, by omega, hn, rfl, Lib.hid (by rw [List.take_append_drop]; exact HO.out), Below.refl _ _, Lib.hid (List.Perm.refl _), Lib.hid ?_⟩
    rcases s with _ | ⟨a, r⟩
    · simp at hn
    · simp [OrdL]
  case round =>
    obtain ⟨k, p, hk1, hk, rfl, HOW, hbel, HP, HOR⟩ := hrel
    have hhe : w.heap.size ≤ wr.heap.size := hbel.size
    have hpl : p.length = k := by rw [HP.out.length_eq, List.length_take]; omega
    by_cases hlt : k < s.length
    · have hd : s.drop k = s[k] :: s.drop (k + 1) := List.drop_eq_getElem_cons hlt
      have hsk : s[k]? = some s[k] := List.getElem?_eq_getElem hlt
      have how := HOW.out
      rw [hd] at how
      have hxlt : ∀ y ∈ p, y < s[k] := fun y hy => by
        have hy2 := HP.out.mem_iff.1 hy
        obtain ⟨i, hi, rfl⟩ := List.getElem_of_mem hy2
        rw [List.getElem_take]
        simp only [List.length_take] at hi
        exact List.pairwise_iff_getElem.1 HS.out i k (by omega) hlt (by omega)
      have htk : s.take (k + 1) = s.take k ++ [s[k]] := (List.take_append_getElem hlt).symm
      generalize s[k] = x at *
      have HOW2 := Lib.hid how
      have HXL := Lib.hid hxlt
      have HTK := Lib.hid htk
      have HPL := Lib.hid hpl
      clear how hd hsk hxlt htk hpl HOW
      go_wp2_with fail
      go_loopw [9] (fun vj wq => ∃ (j : Nat) (p1 p2 : List Int), vj = .int .i64 j ∧ j ≤ k ∧ Hid (p1.length = j) ∧ Hid (p1 ++ p2 = p) ∧ Hid (Own base 3 1 ienc wq ⟨some ⟨g, 0, none⟩, c, p1 ++ x :: (p2 ++ s.drop (k + 1))⟩) ∧ Hid (∀ y ∈ p2, ofL y L.l < ofL x L.l) ∧ Below base w wq) (fun vj _ => (intOf vj).toNat)
      case atStart => exact ⟨k, p, [], rfl, by omega, HPL, Lib.hid (by simp), Lib.hid (by simpa using HOW2.out), Lib.hid (by simp), hbel⟩
      case round =>
        clear HOW2 hbel hhe
        obtain ⟨j, p1, p2, rfl, hjk, HJ, HPP, HOJ, HLT, hbel⟩ := hrel
        have hhe : base ≤ wr.heap.size := Nat.le_trans hbase hbel.size
        have out : (∀ z, p1.getLast? = some z → ¬ ofL z L.l < ofL x L.l) → Hid (Own base 3 1 ienc wr ⟨some ⟨g, 0, none⟩, c, (p1 ++ x :: p2) ++ s.drop (k + 1)⟩) ∧ Hid ((p1 ++ x :: p2).Perm (s.take (k + 1))) ∧ Hid (OrdL L.l (p1 ++ x :: p2)) := fun h => by
          refine ⟨Lib.hid (by simpa using HOJ.out), Lib.hid ?_, Lib.hid ?_⟩
          · rw [HTK.out]
            refine List.perm_middle.trans ?_
            rw [HPP.out]
            exact (HP.out.cons x).trans (List.perm_append_comm (l₁ := [x]) (l₂ := s.take k))
          · exact ord_ins (by rw [HPP.out]; exact HOR.out) (fun y hy => HXL.out y (by rw [← HPP.out]; simp [hy])) HLT.out h
        have OUT := Lib.hid out
        clear out
        rcases Nat.eq_zero_or_pos j with rfl | hj0
        · have hp1 : p1 = [] := List.eq_nil_of_length_eq_zero HJ.out
          have hex := OUT.out (by rw [hp1]; simp)
          clear hp1 OUT
          obtain ⟨HX1, HX2, HX3⟩ := hex
          go_wp2_with fail
          refine wp_region_T (fun _ => True) (fun _ => false) (by kernel_rfl) trivial (fun _ => ?_)
          refine wpAnyT_take2 (i := 0) (v := ?_) rfl rfl (by kernel_rfl) (by kernel_rfl) (by kernel_rfl) (by kernel_rfl) (fun _ _ _ h => h) (Or.inl ⟨by rfl, ?_⟩) trivial ?_
          rotate_left
          · (intro w hSw; clear hSw; go_simp) <;> (with_reducible rfl)
          simp only [List.setIfInBounds_toArray, List.set_cons_zero, List.set_cons_succ]
          refine wpAnyT_take2 (i := 1) (v := ?_) rfl rfl (by kernel_rfl) (by kernel_rfl) (by kernel_rfl) (by kernel_rfl) (fun _ _ _ h => h) (Or.inl ⟨by rfl, ?_⟩) trivial ?_
          rotate_left
          · (intro w hSw; clear hSw; go_simp) <;> (with_reducible rfl)
          simp only [List.setIfInBounds_toArray, List.set_cons_zero, List.set_cons_succ]
          refine wpAnyT_take2 (i := 2) (v := .bool false) rfl rfl (by kernel_rfl) (by kernel_rfl) (by kernel_rfl) (by kernel_rfl) (fun _ _ _ h => h) (Or.inl ⟨by rfl, ?_⟩) (by first | assumption | trivial) ?_
          · (intro w hSw; (try dsimp only at hSw); go_simp) <;> (first | (with_reducible rfl) | assumption | (simp; done) | (simp [*]; done) | (simp; omega))
          simp only [List.setIfInBounds_toArray, List.set_cons_zero, List.set_cons_succ]
          refine wpAnyT_take2 (i := 3) (v := ?_) rfl rfl (by kernel_rfl) (by kernel_rfl) (by kernel_rfl) (by kernel_rfl) (fun _ _ _ h => h) (Or.inl ⟨by rfl, ?_⟩) trivial ?_
          rotate_left
          · (intro w hSw; clear hSw; go_simp) <;> (with_reducible rfl)
          simp only [List.setIfInBounds_toArray, List.set_cons_zero, List.set_cons_succ]
          refine wpAnyT_take2 (i := 4) (v := undef) rfl rfl (by kernel_rfl) (by kernel_rfl) (by kernel_rfl) (by kernel_rfl) (fun _ _ _ h => h) (Or.inr ⟨by rfl, rfl⟩) (by first | assumption | trivial) ?_
          simp only [List.setIfInBounds_toArray, List.set_cons_zero, List.set_cons_succ]
          refine wpAnyT_take2 (i := 5) (v := undef) rfl rfl (by kernel_rfl) (by kernel_rfl) (by kernel_rfl) (by kernel_rfl) (fun _ _ _ h => h) (Or.inr ⟨by rfl, rfl⟩) (by first | assumption | trivial) ?_
          simp only [List.setIfInBounds_toArray, List.set_cons_zero, List.set_cons_succ]
          refine wpAnyT_take2 (i := 6) (v := undef) rfl rfl (by kernel_rfl) (by kernel_rfl) (by kernel_rfl) (by kernel_rfl) (fun _ _ _ h => h) (Or.inr ⟨by rfl, rfl⟩) (by first | assumption | trivial) ?_
          simp only [List.setIfInBounds_toArray, List.set_cons_zero, List.set_cons_succ]
          refine wpAnyT_take2 (i := 7) (v := undef) rfl rfl (by kernel_rfl) (by kernel_rfl) (by kernel_rfl) (by kernel_rfl) (fun _ _ _ h => h) (Or.inr ⟨by rfl, rfl⟩) (by first | assumption | trivial) ?_
          simp only [List.setIfInBounds_toArray, List.set_cons_zero, List.set_cons_succ]
          refine wpAnyT_take2 (i := 8) (v := undef) rfl rfl (by kernel_rfl) (by kernel_rfl) (by kernel_rfl) (by kernel_rfl) (fun _ _ _ h => h) (Or.inr ⟨by rfl, rfl⟩) (by first | assumption | trivial) ?_
          simp only [List.setIfInBounds_toArray, List.set_cons_zero, List.set_cons_succ]
          refine wpAnyT_take2 (i := 9) (v := undef) rfl rfl (by kernel_rfl) (by kernel_rfl) (by kernel_rfl) (by kernel_rfl) (fun _ _ _ h => h) (Or.inr ⟨by rfl, rfl⟩) (by first | assumption | trivial) ?_
          simp only [List.setIfInBounds_toArray, List.set_cons_zero, List.set_cons_succ]
          refine wpAnyT_take2 (i := 10) (v := undef) rfl rfl (by kernel_rfl) (by kernel_rfl) (by kernel_rfl) (by kernel_rfl) (fun _ _ _ h => h) (Or.inr ⟨by rfl, rfl⟩) (by first | assumption | trivial) ?_
          simp only [List.setIfInBounds_toArray, List.set_cons_zero, List.set_cons_succ]
          refine wpAnyT_take2 (i := 11) (v := undef) rfl rfl (by kernel_rfl) (by kernel_rfl) (by kernel_rfl) (by kernel_rfl) (fun _ _ _ h => h) (Or.inr ⟨by rfl, rfl⟩) (by first | assumption | trivial) ?_
          simp only [List.setIfInBounds_toArray, List.set_cons_zero, List.set_cons_succ]
          refine wpAnyT_take2 (i := 12) (v := undef) rfl rfl (by kernel_rfl) (by kernel_rfl) (by kernel_rfl) (by kernel_rfl) (fun _ _ _ h => h) (Or.inr ⟨by rfl, rfl⟩) (by first | assumption | trivial) ?_
          simp only [List.setIfInBounds_toArray, List.set_cons_zero, List.set_cons_succ]
          refine wpAnyT_take2 (i := 13) (v := undef) rfl rfl (by kernel_rfl) (by kernel_rfl) (by kernel_rfl) (by kernel_rfl) (fun _ _ _ h => h) (Or.inr ⟨by rfl, rfl⟩) (by first | assumption | trivial) ?_
          simp only [List.setIfInBounds_toArray, List.set_cons_zero, List.set_cons_succ]
          refine wpAnyT_take2 (i := 14) (v := undef) rfl rfl (by kernel_rfl) (by kernel_rfl) (by kernel_rfl) (by kernel_rfl) (fun _ _ _ h => h) (Or.inr ⟨by rfl, rfl⟩) (by first | assumption | trivial) ?_
          simp only [List.setIfInBounds_toArray, List.set_cons_zero, List.set_cons_succ]
          refine wpAnyT_take2 (i := 15) (v := undef) rfl rfl (by kernel_rfl) (by kernel_rfl) (by kernel_rfl) (by kernel_rfl) (fun _ _ _ h => h) (Or.inr ⟨by rfl, rfl⟩) (by first | assumption | trivial) ?_
          simp only [List.setIfInBounds_toArray, List.set_cons_zero, List.set_cons_succ]
          refine wpAnyT_take2 (i := 16) (v := ?_) rfl rfl (by kernel_rfl) (by kernel_rfl) (by kernel_rfl) (by kernel_rfl) (fun _ _ _ h => h) (Or.inl ⟨by rfl, ?_⟩) trivial ?_
          rotate_left
          · (intro w hSw; clear hSw; go_simp) <;> (with_reducible rfl)
          simp only [List.setIfInBounds_toArray, List.set_cons_zero, List.set_cons_succ]
          refine wpAnyT_done (by kernel_rfl) ?_ _
          go_wp2_with fail
          go_roundw
          case rel => exact ⟨k + 1, p1 ++ x :: p2, by omega, by omega, by go_num, Lib.hid HX1.out.drew, Below.drew hbel, HX2, HX3⟩
          case measure => simp [intOf]; omega
        · obtain ⟨jp, rfl⟩ : ∃ jp, j = jp + 1 := ⟨j - 1, by omega⟩
          obtain ⟨q1, y, hq⟩ : ∃ (q1 : List Int) (y : Int), p1 = q1 ++ [y] := by
            rcases List.eq_nil_or_concat p1 with h | ⟨q1, y, h⟩
            · have := HJ.out; rw [h] at this; simp at this
            · exact ⟨q1, y, by rw [h, List.concat_eq_append]⟩
          subst hq
          have hql : q1.length = jp := by have := HJ.out; simp at this; exact this
          have hfull : q1 ++ [y] ++ x :: (p2 ++ s.drop (k + 1)) = q1 ++ y :: x :: (p2 ++ s.drop (k + 1)) := by simp
          have HOJ2 : Hid (Own base 3 1 ienc wr ⟨some ⟨g, 0, none⟩, c, q1 ++ y :: x :: (p2 ++ s.drop (k + 1))⟩) := Lib.hid (by rw [← hfull]; exact HOJ.out)
          clear hfull HOJ
          have c1 : wr.cell? ⟨g, jp, none⟩ = some (.int .i64 y) := own_celli HOJ2.out (by rw [← hql]; simp)
          have c2 : wr.cell? ⟨g, jp + 1, none⟩ = some (.int .i64 x) := own_celli HOJ2.out (by rw [← hql]; simp)
          have HQL := Lib.hid hql
          have hj1 : ((jp + 1 : Nat) : Int) - 1 = jp := by omega
          have hj2 : IntKind.i64.wrap (jp : Int) = jp := by rw [IntKind.wrap_i64]; omega
          have hj3 : (jp : Int) + 1 - 1 = jp := by omega
          have hj4 : (0 : Int) ≤ (jp : Int) + 1 := by omega
          have hj5 : (jp : Int) + 1 < (s.length : Int) := by omega
          have hj6 : jp < s.length := by omega
          clear hql
          go_wp2_with fail
          refine wp_region_T (fun w' => w'.cell? ⟨g, jp, none⟩ = some (.int .i64 y) ∧ w'.cell? ⟨g, jp + 1, none⟩ = some (.int .i64 x)) (fun _ => false) (by kernel_rfl) ⟨c1, c2⟩ (fun hHeld => ?_)
          refine wpAnyT_take2 (i := 0) (v := ?_) rfl rfl (by kernel_rfl) (by kernel_rfl) (by kernel_rfl) (by kernel_rfl) (fun _ _ _ h => h) (Or.inl ⟨by rfl, ?_⟩) (by first | assumption | trivial) ?_
          rotate_left
          · (intro w hSw; (try dsimp only at hSw); go_simp) <;> (with_reducible rfl)
          simp only [List.setIfInBounds_toArray, List.set_cons_zero, List.set_cons_succ]
          refine wpAnyT_take2 (i := 1) (v := ?_) rfl rfl (by kernel_rfl) (by kernel_rfl) (by kernel_rfl) (by kernel_rfl) (fun _ _ _ h => h) (Or.inl ⟨by rfl, ?_⟩) (by first | assumption | trivial) ?_
          rotate_left
          · (intro w hSw; (try dsimp only at hSw); go_simp) <;> (with_reducible rfl)
          simp only [List.setIfInBounds_toArray, List.set_cons_zero, List.set_cons_succ]
          refine wpAnyT_take2 (i := 2) (v := .bool true) rfl rfl (by kernel_rfl) (by kernel_rfl) (by kernel_rfl) (by kernel_rfl) (fun _ _ _ h => h) (Or.inl ⟨by rfl, ?_⟩) (by first | assumption | trivial) ?_
          · (intro w hSw; (try dsimp only at hSw); go_simp) <;> (first | (with_reducible rfl) | assumption | (simp; done) | (simp [*]; done) | (simp; omega))
          simp only [List.setIfInBounds_toArray, List.set_cons_zero, List.set_cons_succ]
          refine wpAnyT_take2 (i := 3) (v := ?_) rfl rfl (by kernel_rfl) (by kernel_rfl) (by kernel_rfl) (by kernel_rfl) (fun _ _ _ h => h) (Or.inl ⟨by rfl, ?_⟩) (by first | assumption | trivial) ?_
          rotate_left
          · (intro w hSw; (try dsimp only at hSw); go_simp) <;> (with_reducible rfl)
          simp only [List.setIfInBounds_toArray, List.set_cons_zero, List.set_cons_succ]
          refine wpAnyT_take2 (i := 4) (v := ?_) rfl rfl (by kernel_rfl) (by kernel_rfl) (by kernel_rfl) (by kernel_rfl) (fun _ _ _ h => h) (Or.inl ⟨by rfl, ?_⟩) (by first | assumption | trivial) ?_
          rotate_left
          · (intro w hSw; (try dsimp only at hSw); go_simp) <;> (with_reducible rfl)
          simp only [List.setIfInBounds_toArray, List.set_cons_zero, List.set_cons_succ]
          refine wpAnyT_take2 (i := 5) (v := ?_) rfl rfl (by kernel_rfl) (by kernel_rfl) (by kernel_rfl) (by kernel_rfl) (fun _ _ _ h => h) (Or.inl ⟨by rfl, ?_⟩) (by first | assumption | trivial) ?_
          rotate_left
          · (intro w hSw; (try dsimp only at hSw); go_simp) <;> (with_reducible rfl)
          simp only [List.setIfInBounds_toArray, List.set_cons_zero, List.set_cons_succ]
          refine wpAnyT_take2 (i := 6) (v := ?_) rfl rfl (by kernel_rfl) (by kernel_rfl) (by kernel_rfl) (by kernel_rfl) (fun _ _ _ h => h) (Or.inl ⟨by rfl, ?_⟩) (by first | assumption | trivial) ?_
          rotate_left
          · (intro w hSw; (try dsimp only at hSw); go_simp) <;> (with_reducible rfl)
          simp only [List.setIfInBounds_toArray, List.set_cons_zero, List.set_cons_succ]
          refine wpAnyT_take2 (i := 7) (v := ?_) rfl rfl (by kernel_rfl) (by kernel_rfl) (by kernel_rfl) (by kernel_rfl) (fun _ _ _ h => h) (Or.inl ⟨by rfl, ?_⟩) (by first | assumption | trivial) ?_
          rotate_left
          · (intro w hSw; (try dsimp only at hSw); go_simp) <;> (with_reducible rfl)
          simp only [List.setIfInBounds_toArray, List.set_cons_zero, List.set_cons_succ]
          refine wpAnyT_take2 (i := 8) (v := ?_) rfl rfl (by kernel_rfl) (by kernel_rfl) (by kernel_rfl) (by kernel_rfl) (fun _ _ _ h => h) (Or.inl ⟨by rfl, ?_⟩) (by first | assumption | trivial) ?_
          rotate_left
          · (intro w hSw; (try dsimp only at hSw); go_simp) <;> (with_reducible rfl)
          simp only [List.setIfInBounds_toArray, List.set_cons_zero, List.set_cons_succ]
          refine wpAnyT_take2 (i := 9) (v := ?_) rfl rfl (by kernel_rfl) (by kernel_rfl) (by kernel_rfl) (by kernel_rfl) (fun _ _ _ h => h) (Or.inl ⟨by rfl, ?_⟩) (by first | assumption | trivial) ?_
          rotate_left
          · (intro w hSw; (try dsimp only at hSw); go_simp) <;> (with_reducible rfl)
          simp only [List.setIfInBounds_toArray, List.set_cons_zero, List.set_cons_succ]
          refine wpAnyT_take2 (i := 10) (v := ?_) rfl rfl (by kernel_rfl) (by kernel_rfl) (by kernel_rfl) (by kernel_rfl) (fun _ _ _ h => h) (Or.inl ⟨by rfl, ?_⟩) (by first | assumption | trivial) ?_
          rotate_left
          · (intro w hSw; (try dsimp only at hSw); go_simp) <;> (with_reducible rfl)
          simp only [List.setIfInBounds_toArray, List.set_cons_zero, List.set_cons_succ]
          refine wpAnyT_take2 (i := 11) (v := ?_) rfl rfl (by kernel_rfl) (by kernel_rfl) (by kernel_rfl) (by kernel_rfl) (fun _ _ _ h => h) (Or.inl ⟨by rfl, ?_⟩) (by first | assumption | trivial) ?_
          rotate_left
          · (intro w hSw; (try dsimp only at hSw); go_simp) <;> (with_reducible rfl)
          simp only [List.setIfInBounds_toArray, List.set_cons_zero, List.set_cons_succ]
          refine wpAnyT_take2 (i := 12) (v := ?_) rfl rfl (by kernel_rfl) (by kernel_rfl) (by kernel_rfl) (by kernel_rfl) (fun _ _ _ h => h) (Or.inl ⟨by rfl, ?_⟩) (by first | assumption | trivial) ?_
          rotate_left
          · (intro w hSw; (try dsimp only at hSw); go_simp) <;> (with_reducible rfl)
          simp only [List.setIfInBounds_toArray, List.set_cons_zero, List.set_cons_succ]
          refine wpAnyT_take2 (i := 13) (v := ?_) rfl rfl (by kernel_rfl) (by kernel_rfl) (by kernel_rfl) (by kernel_rfl) (fun _ _ _ h => h) (Or.inl ⟨by rfl, ?_⟩) (by first | assumption | trivial) ?_
          rotate_left
          · (intro w hSw; (try dsimp only at hSw); go_simp) <;> (with_reducible rfl)
          simp only [List.setIfInBounds_toArray, List.set_cons_zero, List.set_cons_succ]
          clear hHeld
          refine wpAnyT_next (i := 14) (by kernel_rfl) rfl ?_
          go_wp2_with fail
          refine (bear1_any L x y gb _ (HL.out.later (by repeat (first | (with_reducible exact hbel) | (with_reducible exact Below.refl _ _) | ((with_reducible refine below_setr ?_ ?_); focus (first | (simp; done) | (simp; omega) | omega)) | ((with_reducible refine below_allocr ?_ ?_); focus (first | (simp; done) | (simp; omega) | omega)) | (with_reducible refine Below.drew ?_) | (with_reducible refine below_drewN ?_ _))) hbase) ((Below.cell (by repeat (first | (with_reducible exact hbel) | (with_reducible exact Below.refl _ _) | ((with_reducible refine below_setr ?_ ?_); focus (first | (simp; done) | (simp; omega) | omega)) | ((with_reducible refine below_allocr ?_ ?_); focus (first | (simp; done) | (simp; omega) | omega)) | (with_reducible refine Below.drew ?_) | (with_reducible refine below_drewN ?_ _))) hgb).trans HC.out)).mono ?_
          rintro e w1 ⟨rfl, hb1⟩
          have hB1 : Below base w w1 := Below.trans (Below.drew hbel) (hb1.mono hhe)
          have HO1 : Hid (Own base 3 1 ienc w1 ⟨some ⟨g, 0, none⟩, c, q1 ++ y :: x :: (p2 ++ s.drop (k + 1))⟩) := Lib.hid (HOJ2.out.drew.below hb1)
          have d1 := own_celli (i := jp) (x := y) HO1.out (by rw [← HQL.out]; simp)
          have d2 := own_celli (i := jp + 1) (x := x) HO1.out (by rw [← HQL.out]; simp)
          have hfr := HO1.out.frozen rfl
          have hHeld := And.intro d1 d2
          clear hb1 c1 c2
          rcases Int.lt_trichotomy (ofL y L.l) (ofL x L.l) with hcm | hcm | hcm
          · rw [cmpI_lt hcm]
            have HLT2 : Hid (∀ z ∈ y :: p2, ofL z L.l < ofL x L.l) := Lib.hid (fun z hz => by
              rcases List.mem_cons.1 hz with rfl | hz
              · exact hcm
              · exact HLT.out z hz)
            clear hcm
            go_wp2_with fail
            refine And.intro ?_ ?_
            · first
              | exact hHeld
              | exact fun _ => hHeld
            refine wpAnyT_take2 (i := 15) (v := ?_) rfl rfl (by kernel_rfl) (by kernel_rfl) (by kernel_rfl) (by kernel_rfl) (fun _ _ _ h => h) (Or.inl ⟨by rfl, ?_⟩) (by first | assumption | trivial) ?_
            rotate_left
            · (intro w hSw; (try dsimp only at hSw); go_simp) <;> (with_reducible rfl)
            simp only [List.setIfInBounds_toArray, List.set_cons_zero, List.set_cons_succ]
            refine wpAnyT_take2 (i := 16) (v := ?_) rfl rfl (by kernel_rfl) (by kernel_rfl) (by kernel_rfl) (by kernel_rfl) (fun _ _ _ h => h) (Or.inl ⟨by rfl, ?_⟩) (by first | assumption | trivial) ?_
            rotate_left
            · (intro w hSw; (try dsimp only at hSw); go_simp) <;> (with_reducible rfl)
            simp only [List.setIfInBounds_toArray, List.set_cons_zero, List.set_cons_succ]
            refine wpAnyT_done (by kernel_rfl) ?_ _
            clear hHeld
            go_wp2_with fail
            refine wp_region_T (fun _ => True) (fun _ => false) (by kernel_rfl) trivial (fun _ => ?_)
            refine wpAnyT_take2 (i := 0) (v := ?_) rfl rfl (by kernel_rfl) (by kernel_rfl) (by kernel_rfl) (by kernel_rfl) (fun _ _ _ h => h) (Or.inl ⟨by rfl, ?_⟩) trivial ?_
            rotate_left
            · (intro w hSw; clear hSw; go_simp) <;> (with_reducible rfl)
            simp only [List.setIfInBounds_toArray, List.set_cons_zero, List.set_cons_succ]
            refine wpAnyT_take2 (i := 1) (v := ?_) rfl rfl (by kernel_rfl) (by kernel_rfl) (by kernel_rfl) (by kernel_rfl) (fun _ _ _ h => h) (Or.inl ⟨by rfl, ?_⟩) trivial ?_
            rotate_left
            · (intro w hSw; clear hSw; go_simp) <;> (with_reducible rfl)
            simp only [List.setIfInBounds_toArray, List.set_cons_zero, List.set_cons_succ]
            refine wpAnyT_take2 (i := 2) (v := ?_) rfl rfl (by kernel_rfl) (by kernel_rfl) (by kernel_rfl) (by kernel_rfl) (fun _ _ _ h => h) (Or.inl ⟨by rfl, ?_⟩) trivial ?_
            rotate_left
            · (intro w hSw; clear hSw; go_simp) <;> (with_reducible rfl)
            simp only [List.setIfInBounds_toArray, List.set_cons_zero, List.set_cons_succ]
            refine wpAnyT_take2 (i := 3) (v := ?_) rfl rfl (by kernel_rfl) (by kernel_rfl) (by kernel_rfl) (by kernel_rfl) (fun _ _ _ h => h) (Or.inl ⟨by rfl, ?_⟩) trivial ?_
            rotate_left
            · (intro w hSw; clear hSw; go_simp) <;> (with_reducible rfl)
            simp only [List.setIfInBounds_toArray, List.set_cons_zero, List.set_cons_succ]
            refine wpAnyT_take2 (i := 4) (v := ?_) rfl rfl (by kernel_rfl) (by kernel_rfl) (by kernel_rfl) (by kernel_rfl) (fun _ _ _ h => h) (Or.inl ⟨by rfl, ?_⟩) trivial ?_
            rotate_left
            · (intro w hSw; clear hSw; go_simp) <;> (with_reducible rfl)
            simp only [List.setIfInBounds_toArray, List.set_cons_zero, List.set_cons_succ]
            refine wpAnyT_take2 (i := 5) (v := ?_) rfl rfl (by kernel_rfl) (by kernel_rfl) (by kernel_rfl) (by kernel_rfl) (fun _ _ _ h => h) (Or.inl ⟨by rfl, ?_⟩) trivial ?_
            rotate_left
            · (intro w hSw; clear hSw; go_simp) <;> (with_reducible rfl)
            simp only [List.setIfInBounds_toArray, List.set_cons_zero, List.set_cons_succ]
            refine wpAnyT_take2 (i := 6) (v := ?_) rfl rfl (by kernel_rfl) (by kernel_rfl) (by kernel_rfl) (by kernel_rfl) (fun _ _ _ h => h) (Or.inl ⟨by rfl, ?_⟩) trivial ?_
            rotate_left
            · (intro w hSw; clear hSw; go_simp) <;> (with_reducible rfl)
            simp only [List.setIfInBounds_toArray, List.set_cons_zero, List.set_cons_succ]
            refine wpAnyT_take2 (i := 7) (v := ?_) rfl rfl (by kernel_rfl) (by kernel_rfl) (by kernel_rfl) (by kernel_rfl) (fun _ _ _ h => h) (Or.inl ⟨by rfl, ?_⟩) trivial ?_
            rotate_left
            · (intro w hSw; clear hSw; go_simp) <;> (with_reducible rfl)
            simp only [List.setIfInBounds_toArray, List.set_cons_zero, List.set_cons_succ]
            refine wpAnyT_take2 (i := 8) (v := ?_) rfl rfl (by kernel_rfl) (by kernel_rfl) (by kernel_rfl) (by kernel_rfl) (fun _ _ _ h => h) (Or.inl ⟨by rfl, ?_⟩) trivial ?_
            rotate_left
            · (intro w hSw; clear hSw; go_simp) <;> (with_reducible rfl)
            simp only [List.setIfInBounds_toArray, List.set_cons_zero, List.set_cons_succ]
            refine wpAnyT_take2 (i := 10) (v := ?_) rfl rfl (by kernel_rfl) (by kernel_rfl) (by kernel_rfl) (by kernel_rfl) (fun _ _ _ h => h) (Or.inl ⟨by rfl, ?_⟩) trivial ?_
            rotate_left
            · (intro w hSw; clear hSw; go_simp) <;> (with_reducible rfl)
            simp only [List.setIfInBounds_toArray, List.set_cons_zero, List.set_cons_succ]
            refine wpAnyT_take2 (i := 11) (v := ?_) rfl rfl (by kernel_rfl) (by kernel_rfl) (by kernel_rfl) (by kernel_rfl) (fun _ _ _ h => h) (Or.inl ⟨by rfl, ?_⟩) trivial ?_
            rotate_left
            · (intro w hSw; clear hSw; go_simp) <;> (with_reducible rfl)
            simp only [List.setIfInBounds_toArray, List.set_cons_zero, List.set_cons_succ]
            refine wpAnyT_take2 (i := 12) (v := ?_) rfl rfl (by kernel_rfl) (by kernel_rfl) (by kernel_rfl) (by kernel_rfl) (fun _ _ _ h => h) (Or.inl ⟨by rfl, ?_⟩) trivial ?_
            rotate_left
            · (intro w hSw; clear hSw; go_simp) <;> (with_reducible rfl)
            simp only [List.setIfInBounds_toArray, List.set_cons_zero, List.set_cons_succ]
            refine wpAnyT_switch (fun w' => w'.cell? ⟨g, jp, none⟩ = some (.int .i64 y) ∧ w'.cell? ⟨g, jp + 1, none⟩ = some (.int .i64 x)) (fun i => 15 ≤ i) ⟨d1, d2⟩ (fun hHeld => ?_)
            refine wpAnyT_take2 (i := 9) (v := ?_) rfl rfl (by kernel_rfl) (by kernel_rfl) (by kernel_rfl) (by kernel_rfl) (fun _ _ _ h => h) (Or.inl ⟨by rfl, ?_⟩) (by first | assumption | trivial) ?_
            rotate_left
            · (intro w hSw; (try dsimp only at hSw); go_simp) <;> (with_reducible rfl)
            simp only [List.setIfInBounds_toArray, List.set_cons_zero, List.set_cons_succ]
            refine wpAnyT_take2 (i := 13) (v := ?_) rfl rfl (by kernel_rfl) (by kernel_rfl) (by kernel_rfl) (by kernel_rfl) (fun _ _ _ h => h) (Or.inl ⟨by rfl, ?_⟩) (by first | assumption | trivial) ?_
            rotate_left
            · (intro w hSw; (try dsimp only at hSw); go_simp) <;> (with_reducible rfl)
            simp only [List.setIfInBounds_toArray, List.set_cons_zero, List.set_cons_succ]
            refine wpAnyT_take2 (i := 14) (v := ?_) rfl rfl (by kernel_rfl) (by kernel_rfl) (by kernel_rfl) (by kernel_rfl) (fun _ _ _ h => h) (Or.inl ⟨by rfl, ?_⟩) (by first | assumption | trivial) ?_
            rotate_left
            · (intro w hSw; (try dsimp only at hSw); go_simp) <;> (with_reducible rfl)
            simp only [List.setIfInBounds_toArray, List.set_cons_zero, List.set_cons_succ]
            clear hHeld
            refine wpAnyT_next (i := 15) (by kernel_rfl) rfl ?_
            go_wp2_with fail
            refine ⟨fun h => by simp at h, ?_⟩
            refine wpAnyT_next (i := 16) (by kernel_rfl) rfl ?_
            go_wp2_with fail
            refine ⟨fun h => by simp at h, ?_⟩
            refine wpAnyT_next (i := 17) (by kernel_rfl) rfl ?_
            go_wp2_with fail
            refine ⟨fun h => by simp at h, ?_⟩
            refine wpAnyT_done (by kernel_rfl) ?_ _
            have hO2 := own_seti (i := jp) (n := x) (own_seti (i := jp + 1) (n := y) HO1.out (by rw [← HQL.out]; simp)) (by rw [← HQL.out]; simp)
            have hsw := swap_mid (p := q1) (r := p2 ++ s.drop (k + 1)) (y := y) (x := x)
            rw [HQL.out] at hsw
            rw [hsw] at hO2
            have HO2 := Lib.hid hO2
            clear hO2 hsw
            go_wp2_with fail
            go_roundw
            case rel => exact ⟨jp, q1, y :: p2, rfl, by omega, HQL, Lib.hid (by rw [← HPP.out]; simp), Lib.hid (by first | exact HO2.out | exact Own.drew HO2.out | (show Own base _ 1 ienc _ _; simpa using Own.drew HO2.out)), HLT2, (by repeat (first | (with_reducible exact hB1) | (with_reducible exact Below.refl _ _) | ((with_reducible refine below_setr ?_ ?_); focus (first | (simp; done) | (simp; omega) | omega)) | ((with_reducible refine below_allocr ?_ ?_); focus (first | (simp; done) | (simp; omega) | omega)) | (with_reducible refine Below.drew ?_) | (with_reducible refine below_drewN ?_ _)))⟩
            case measure => simp [intOf]
          · rw [cmpI_eq hcm]
            have hex := OUT.out (fun z hz => by
              rw [List.getLast?_append] at hz
              simp at hz; subst hz; omega)
            obtain ⟨_, HX2, HX3⟩ := hex
            have HX1 : Hid (Own base 3 1 ienc w1 ⟨some ⟨g, 0, none⟩, c, (q1 ++ [y] ++ x :: p2) ++ s.drop (k + 1)⟩) := Lib.hid (by simpa using HO1.out)
            clear hcm OUT
            go_wp2_with fail
            refine And.intro ?_ ?_
            · first
              | exact hHeld
              | exact fun _ => hHeld
            refine wpAnyT_take2 (i := 15) (v := ?_) rfl rfl (by kernel_rfl) (by kernel_rfl) (by kernel_rfl) (by kernel_rfl) (fun _ _ _ h => h) (Or.inl ⟨by rfl, ?_⟩) (by first | assumption | trivial) ?_
            rotate_left
            · (intro w hSw; (try dsimp only at hSw); go_simp) <;> (with_reducible rfl)
            simp only [List.setIfInBounds_toArray, List.set_cons_zero, List.set_cons_succ]
            refine wpAnyT_take2 (i := 16) (v := ?_) rfl rfl (by kernel_rfl) (by kernel_rfl) (by kernel_rfl) (by kernel_rfl) (fun _ _ _ h => h) (Or.inl ⟨by rfl, ?_⟩) (by first | assumption | trivial) ?_
            rotate_left
            · (intro w hSw; (try dsimp only at hSw); go_simp) <;> (with_reducible rfl)
            simp only [List.setIfInBounds_toArray, List.set_cons_zero, List.set_cons_succ]
            refine wpAnyT_done (by kernel_rfl) ?_ _
            clear hHeld
            go_wp2_with fail
            go_roundw
            case rel => exact ⟨k + 1, q1 ++ [y] ++ x :: p2, by omega, by omega, by go_num, HX1, hB1, HX2, HX3⟩
            case measure => simp [intOf]; omega
          · rw [cmpI_gt hcm]
            have hex := OUT.out (fun z hz => by
              rw [List.getLast?_append] at hz
              simp at hz; subst hz; omega)
            obtain ⟨_, HX2, HX3⟩ := hex
            have HX1 : Hid (Own base 3 1 ienc w1 ⟨some ⟨g, 0, none⟩, c, (q1 ++ [y] ++ x :: p2) ++ s.drop (k + 1)⟩) := Lib.hid (by simpa using HO1.out)
            clear hcm OUT
            go_wp2_with fail
            refine And.intro ?_ ?_
            · first
              | exact hHeld
              | exact fun _ => hHeld
            refine wpAnyT_take2 (i := 15) (v := ?_) rfl rfl (by kernel_rfl) (by kernel_rfl) (by kernel_rfl) (by kernel_rfl) (fun _ _ _ h => h) (Or.inl ⟨by rfl, ?_⟩) (by first | assumption | trivial) ?_
            rotate_left
            · (intro w hSw; (try dsimp only at hSw); go_simp) <;> (with_reducible rfl)
            simp only [List.setIfInBounds_toArray, List.set_cons_zero, List.set_cons_succ]
            refine wpAnyT_take2 (i := 16) (v := ?_) rfl rfl (by kernel_rfl) (by kernel_rfl) (by kernel_rfl) (by kernel_rfl) (fun _ _ _ h => h) (Or.inl ⟨by rfl, ?_⟩) (by first | assumption | trivial) ?_
            rotate_left
            · (intro w hSw; (try dsimp only at hSw); go_simp) <;> (with_reducible rfl)
            simp only [List.setIfInBounds_toArray, List.set_cons_zero, List.set_cons_succ]
            refine wpAnyT_done (by kernel_rfl) ?_ _
            clear hHeld
            go_wp2_with fail
            go_roundw
            case rel => exact ⟨k + 1, q1 ++ [y] ++ x :: p2, by omega, by omega, by go_num, HX1, hB1, HX2, HX3⟩
            case measure => simp [intOf]; omega
    · have hks : k = s.length := by omega
      have hfin : p = ordF L.l s := by
        have h1 := HP.out
        rw [List.take_of_length_le (by omega)] at h1
        exact ord_uniq HOR.out (ordF_ord HND.out) (h1.trans (ordF_perm L.l s).symm)
      have hdr : s.drop k = [] := List.drop_eq_nil_of_le (by omega)
      have HX : Hid (Own base 3 1 ienc wr ⟨some ⟨g, 0, none⟩, c, ordF L.l s⟩) := Lib.hid (by have := HOW.out; rw [hdr, List.append_nil, hfin] at this; exact this)
      clear hks hfin hdr HOW
      go_wp2_with fail
      go_end0
      exact ⟨rfl, HX.out, hbel⟩
end Go.Proofs.Ytjbdjlgddjmkbaa
