/- What Bear's order gives; walks: IndexFunc with the closure of Bear, ContainsFunc. -/
import Derived.Test.YtjbdjlgddjmkbaaFvSo
import Derived.Test.YtjbdjlgddjmkbaaFvLr
namespace Go.Proofs.Ytjbdjlgddjmkbaa
open Go.RowKit
theorem ord_last {L : List Bal} {o : List Int} (ho : OrdL L o) {z : Int} (hz : o.getLast? = some z) : ∀ y ∈ o, ofL z L ≤ ofL y L := by
  rcases List.eq_nil_or_concat o with rfl | ⟨q, y, rfl⟩
  · simp at hz
  · rw [List.concat_eq_append] at ho hz ⊢
    simp at hz; subst hz
    obtain ⟨b1, b2, b3⟩ := List.pairwise_append.1 ho
    intro u hu
    rcases List.mem_append.1 hu with hu | hu
    · have := b3 u hu y (by simp)
      rw [befB_iff] at this; omega
    · simp at hu; subst hu; omega
theorem bear_split {L : List Bal} {rs o : List Int} (hn : rs.Nodup) (hp : o.Perm rs) (ho : OrdL L o) {z : Int} (hz : o.getLast? = some z) {j : Nat} {x : Int} (hx : o[j]? = some x) (hxz : ofL x L = ofL z L) (hb : ∀ y ∈ o.take j, ofL y L ≠ ofL z L) :
    bearerF L rs = x ∧ othersF L rs = o.take j ++ o.drop (j + 1) := by
  obtain ⟨hj, hjx⟩ := List.getElem?_eq_some_iff.1 hx
  have hsplit : o = o.take j ++ x :: o.drop (j + 1) := by
    rw [← hjx, ← List.drop_eq_getElem_cons hj, List.take_append_drop]
  have hon : o.Nodup := hp.nodup_iff.2 hn
  have hlast := ord_last ho hz
  have hmem : x ∈ o := List.mem_of_getElem? hx
  have ho2 := ho
  rw [hsplit] at ho2
  obtain ⟨a1, a2, a3⟩ := List.pairwise_append.1 ho2
  obtain ⟨c1, c2⟩ := List.pairwise_cons.1 a2
  have hlow : IsLow L x rs := by
    refine ⟨hp.mem_iff.1 hmem, fun y hy hne => ?_⟩
    have hyo := hp.mem_iff.2 hy
    have hy2 := hlast y hyo
    rw [hsplit] at hyo
    rcases List.mem_append.1 hyo with h | h
    · have := hb y h
      rw [lowB_iff]; omega
    · rcases List.mem_cons.1 h with h | h
      · exact absurd h hne
      · have := c1 y h
        rw [befB_iff] at this
        rw [lowB_iff]; omega
  have hrn : rs ≠ [] := fun e => by rw [e] at hp; have := List.perm_nil.1 hp; rw [this] at hmem; simp at hmem
  have hbx : bearerF L rs = x := low_uniq (bearerF_low hrn) hlow
  refine ⟨hbx, ?_⟩
  unfold othersF
  rw [hbx]
  refine ord_uniq (l := L) (ordF_ord (hn.sublist List.erase_sublist)) (ho.sublist ?_) ?_
  · rw (occs := .pos [3]) [hsplit]
    exact List.Sublist.append (List.Sublist.refl _) (List.sublist_cons_self _ _)
  · refine (ordF_perm L _).trans ?_
    have h1 : (x :: (o.take j ++ o.drop (j + 1))).Perm rs := by
      refine List.Perm.trans ?_ hp
      rw (occs := .pos [3]) [hsplit]
      exact List.perm_middle.symm
    have h2 := h1.erase x
    rw [List.erase_cons_head] at h2
    exact h2.symm
set_option maxHeartbeats 1000000 in
theorem idxI (l : Sl Int) (p : Int → Bool) (g h : Nat) (w : World) (hr : Rd (· < w.heap.size) 1 ienc w l) (hp : ∀ W x, Below w.heap.size w W → Calls Try.prog 29 #[.int .i64 x, .pointer (some ⟨g, 0, none⟩), .pointer (some ⟨h, 0, none⟩)] W fun e w' => e = .returned (.bool (p x)) ∧ Below W.heap.size W w') :
    Calls Try.prog 28 #[.slice l.A l.l.length l.c, .func (.func 29) #[] #[.pointer (some ⟨g, 0, none⟩), .pointer (some ⟨h, 0, none⟩)]] w fun e w' => e = .returned (.int .i64 (idxP p 0 l.l)) ∧ Below w.heap.size w w' := by
  obtain ⟨A, c, l⟩ := l
  have hn := hr.len
  simp only at hn
  have HR := Lib.hid hr
  clear hr
  simp only
  go_enter Try.func28, Try.ntmps28
  go_wp2_with fail
  go_loopw [5, 8] (fun u i wr => ∃ (k : Nat), k ≤ l.length ∧ i = .int .i64 k ∧ Below w.heap.size w wr ∧ Hid (idxP p 0 l = idxP p k (l.drop k))) (fun _ i _ => l.length - (intOf i).toNat)
  case atStart => exact ⟨0, by omega, rfl, (by repeat (first | (with_reducible exact Below.refl _ _) | ((with_reducible refine below_setr ?_ ?_); focus (first | (simp; done) | (simp; omega) | omega)) | ((with_reducible refine below_allocr ?_ ?_); focus (first | (simp; done) | (simp; omega) | omega)) | (with_reducible refine Below.drew ?_) | (with_reducible refine below_drewN ?_ _))), Lib.hid (by simp)⟩
  case round =>
    obtain ⟨k, hk, rfl, hbel, HG⟩ := hrel
    have hhe : w.heap.size ≤ wr.heap.size := hbel.size
    by_cases hlt : k < l.length
    · obtain ⟨b, o, rfl, hb, hcl⟩ := HR.out.at1 hlt
      have g0 := (hcl.keep (hbel.block b hb)).c1
      simp only [Nat.mul_one] at g0
      have hd : l.drop k = l[k] :: l.drop (k + 1) := List.drop_eq_getElem_cons hlt
      have hgo := HG.out
      rw [hd] at hgo
      have HGO := Lib.hid hgo
      clear hd hgo hcl HG
      generalize l[k] = x at *
      have hcall := hp wr x hbel
      rcases hb0 : p x
      · go_wp2_with fail
        refine hcall.mono ?_
        clear hcall
        rintro e w1 ⟨rfl, hb1⟩
        have hB1 : Below w.heap.size w w1 := (by repeat (first | (with_reducible exact hbel) | (with_reducible exact Below.refl _ _) | ((with_reducible refine below_setr ?_ ?_); focus (first | (simp; done) | (simp; omega) | omega)) | ((with_reducible refine below_allocr ?_ ?_); focus (first | (simp; done) | (simp; omega) | omega)) | (with_reducible refine Below.drew ?_) | (with_reducible refine below_drewN ?_ _) | ((with_reducible apply below_via); focus (with_reducible assumption))))
        clear hb1
        have HB0 := Lib.hid hb0
        rw [hb0]
        clear hb0
        go_wp2_with fail
        go_roundw
        case rel => exact ⟨k + 1, by omega, by go_num, hB1, Lib.hid (by rw [HGO.out, idxP, HB0.out]; rfl)⟩
        case measure => simp [intOf]; omega
      · go_wp2_with fail
        refine hcall.mono ?_
        clear hcall
        rintro e w1 ⟨rfl, hb1⟩
        have hB1 : Below w.heap.size w w1 := (by repeat (first | (with_reducible exact hbel) | (with_reducible exact Below.refl _ _) | ((with_reducible refine below_setr ?_ ?_); focus (first | (simp; done) | (simp; omega) | omega)) | ((with_reducible refine below_allocr ?_ ?_); focus (first | (simp; done) | (simp; omega) | omega)) | (with_reducible refine Below.drew ?_) | (with_reducible refine below_drewN ?_ _) | ((with_reducible apply below_via); focus (with_reducible assumption))))
        clear hb1
        have HB0 := Lib.hid hb0
        rw [hb0]
        clear hb0
        go_wp2_with fail
        go_ret
        exact ⟨ret_int (by rw [HGO.out, idxP, HB0.out]; rfl), hB1⟩
    · have hkl : l.drop k = [] := List.drop_eq_nil_of_le (by omega)
      have hgo := HG.out
      rw [hkl] at hgo
      have HGO := Lib.hid hgo
      clear hkl hgo HG
      go_wp2_with fail
      go_ret
      exact ⟨ret_int (by rw [HGO.out]; rfl), hbel⟩
theorem wrong_any (s : Sl Bal) (w : World) (hr : Rd (· < w.heap.size) 2 Bal.enc w s) :
    Calls Try.prog 33 #[.slice s.A s.l.length s.c, .func (.func 34) #[] #[]] w fun e w' => e = .returned (.bool (!s.l.all validB)) ∧ Below w.heap.size w w' := by
  have hcon := idxBv s (fun x => !validB x) 0 w hr (fun W m n _ => bear3_any m n W)
  rcases idxP_ge (fun x => !validB x) s.l 0 with ⟨h1, h2⟩ | ⟨j, x, h1, h2, h3, h4⟩
  · rw [h1] at hcon
    have hv : s.l.all validB = true := List.all_eq_true.2 (fun x hx => by simpa using h2 x hx)
    have HV := Lib.hid hv
    clear h1 h2 hv
    go_enter Try.func33, Try.ntmps33
    go_wp2_with fail
    refine hcon.mono ?_
    clear hcon
    rintro e w1 ⟨rfl, hb1⟩
    go_wp2_with fail
    go_ret
    exact ⟨ret_bool (by rw [HV.out]; rfl), hb1⟩
  · rw [h1] at hcon
    have hv : s.l.all validB = false := List.all_eq_false.2 ⟨x, List.mem_of_getElem? h2, by simpa using h3⟩
    have HV := Lib.hid hv
    clear h1 h2 hv
    go_enter Try.func33, Try.ntmps33
    go_wp2_with fail
    refine hcon.mono ?_
    clear hcon
    rintro e w1 ⟨rfl, hb1⟩
    go_wp2_with fail
    go_ret
    exact ⟨ret_bool (by rw [HV.out]; rfl), hb1⟩
end Go.Proofs.Ytjbdjlgddjmkbaa
