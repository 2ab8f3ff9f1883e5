/- Walks: Of, Index, Contains, Lag. -/
import Derived.Test.YtjbdjlgddjmkbaaFv2
namespace Go.Proofs.Ytjbdjlgddjmkbaa
open Go.RowKit
theorem ofL_miss {q : Int} : ∀ {l : List Bal}, (∀ x ∈ l, (x.m == q) = false) → ofL q l = 0
  | [], _ => rfl
  | x :: r, h => by
    unfold ofL
    have h1 := h x (by simp)
    simp only [beq_eq_false_iff_ne] at h1
    rw [if_neg h1]
    exact ofL_miss (fun y hy => h y (by simp [hy]))
theorem ofL_hit {q : Int} : ∀ {l : List Bal} {j : Nat} {x : Bal}, l[j]? = some x → (x.m == q) = true → (∀ y ∈ l.take j, (y.m == q) = false) → ofL q l = x.n
  | [], _, _, h, _, _ => by simp at h
  | y :: r, 0, x, h, hx, _ => by
    simp at h; subst h
    unfold ofL
    rw [if_pos (by simpa using hx)]
  | y :: r, j + 1, x, h, hx, ha => by
    rw [List.take_succ_cons] at ha
    unfold ofL
    have h1 := ha y (by simp)
    simp only [beq_eq_false_iff_ne] at h1
    rw [if_neg h1]
    exact ofL_hit (by simpa using h) hx (fun z hz => ha z (by simp [hz]))
theorem ofL_bd {B : Int} (hB : 0 ≤ B) : ∀ {l : List Bal}, (∀ x ∈ l, -B ≤ x.n ∧ x.n ≤ B) → ∀ q, -B ≤ ofL q l ∧ ofL q l ≤ B
  | [], _, q => by unfold ofL; omega
  | x :: r, h, q => by
    unfold ofL
    split
    · exact h x (by simp)
    · exact ofL_bd hB (fun y hy => h y (by simp [hy])) q
set_option maxHeartbeats 1000000 in
theorem of_any (l : Sl Bal) (q : Int) (w : World) (hr : Rd (· < w.heap.size) 2 Bal.enc w l) :
    Calls Try.prog 14 #[.slice l.A l.l.length l.c, .int .i64 q] w fun e w' => e = .returned (.int .i64 (ofL q l.l)) ∧ Below w.heap.size w w' := by
  have hn := hr.len
  have HR := Lib.hid hr
  clear hr
  have hc : ∀ W, Below (w.heap.size + 1) (w.alloc (.cells #[.int .i64 q] 3)) W → W.cell? ⟨w.heap.size, 0, none⟩ = some (.int .i64 q) ∧ w.heap.size < W.heap.size := fun W hW =>
    ⟨(hW.cell (p := ⟨w.heap.size, 0, none⟩) (by simp)).trans (by simp), by have := hW.size; simp at this; omega⟩
  have hcon := idxBq l (fun x => x.m == q) w.heap.size (w.alloc (.cells #[.int .i64 q] 3)) (HR.out.later (by repeat (first | (with_reducible exact Below.refl _ _) | ((with_reducible refine below_setr ?_ ?_); focus (first | (simp; done) | (simp; omega) | omega)) | ((with_reducible refine below_allocr ?_ ?_); focus (first | (simp; done) | (simp; omega) | omega)) | (with_reducible refine Below.drew ?_) | (with_reducible refine below_drewN ?_ _))) (Nat.le_refl _)) (fun W m n hW => by
    have := hc W (by simpa using hW)
    exact of1_any m n q w.heap.size W this.1 this.2)
  clear hc
  rcases idxP_ge (fun x => x.m == q) l.l 0 with ⟨h1, h2⟩ | ⟨j, x, h1, h2, h3, h4⟩
  · rw [h1] at hcon
    have HO := Lib.hid (ofL_miss h2)
    clear h1 h2
    go_enter Try.func14, Try.ntmps14
    go_wp2_with fail
    refine hcon.mono ?_
    clear hcon
    rintro e w1 ⟨rfl, hb1⟩
    have hB1 : Below w.heap.size w w1 := (by repeat (first | (with_reducible exact Below.refl _ _) | ((with_reducible refine below_setr ?_ ?_); focus (first | (simp; done) | (simp; omega) | omega)) | ((with_reducible refine below_allocr ?_ ?_); focus (first | (simp; done) | (simp; omega) | omega)) | (with_reducible refine Below.drew ?_) | (with_reducible refine below_drewN ?_ _) | ((with_reducible apply below_via); focus (with_reducible assumption))))
    clear hb1
    go_wp2_with fail
    go_ret
    exact ⟨ret_int HO.out.symm, hB1⟩
  · rw [Nat.zero_add] at h1
    rw [h1] at hcon
    have hjl : j < l.l.length := (List.getElem?_eq_some_iff.1 h2).1
    have HO := Lib.hid (ofL_hit h2 h3 h4)
    obtain ⟨b, o, hA, hb, hcl⟩ := HR.out.2.2.2 j x h2
    obtain ⟨A, c, l⟩ := l
    simp only at hA hjl HO hn
    subst hA
    obtain ⟨xm, xn⟩ := x
    simp only at HO
    clear h1 h2 h3 h4
    go_enter Try.func14, Try.ntmps14
    go_wp2_with fail
    refine hcon.mono ?_
    clear hcon
    rintro e w1 ⟨rfl, hb1⟩
    have hB1 : Below w.heap.size w w1 := (by repeat (first | (with_reducible exact Below.refl _ _) | ((with_reducible refine below_setr ?_ ?_); focus (first | (simp; done) | (simp; omega) | omega)) | ((with_reducible refine below_allocr ?_ ?_); focus (first | (simp; done) | (simp; omega) | omega)) | (with_reducible refine Below.drew ?_) | (with_reducible refine below_drewN ?_ _) | ((with_reducible apply below_via); focus (with_reducible assumption))))
    clear hb1
    obtain ⟨g0, g1⟩ := Cells.c2 (hcl.keep (hB1.block b hb))
    clear hcl
    go_wp2_with fail
    go_ret
    exact ⟨ret_int HO.out.symm, hB1⟩
set_option maxHeartbeats 1000000 in
theorem index_any (l : Sl Int) (q : Int) (w : World) (hr : Rd (· < w.heap.size) 1 ienc w l) :
    Calls Try.prog 49 #[.slice l.A l.l.length l.c, .int .i64 q] w fun e w' => e = .returned (.int .i64 (idxP (fun x => q == x) 0 l.l)) ∧ Below w.heap.size w w' := by
  obtain ⟨A, c, l⟩ := l
  have hn := hr.len
  simp only at hn
  have HR := Lib.hid hr
  clear hr
  simp only
  go_enter Try.func49, Try.ntmps49
  go_wp2_with fail
  go_loopw [5, 8] (fun u i wr => ∃ (k : Nat), k ≤ l.length ∧ i = .int .i64 k ∧ w = wr ∧ Hid (idxP (fun x => q == x) 0 l = idxP (fun x => q == x) k (l.drop k))) (fun _ i _ => l.length - (intOf i).toNat)
  case atStart => exact ⟨0, by omega, rfl, rfl, Lib.hid (by simp)⟩
  case round =>
    obtain ⟨k, hk, rfl, rfl, HG⟩ := hrel
    by_cases hlt : k < l.length
    · obtain ⟨b, o, rfl, hb, hcl⟩ := HR.out.at1 hlt
      have hd : l.drop k = l[k] :: l.drop (k + 1) := List.drop_eq_getElem_cons hlt
      have hgo := HG.out
      rw [hd] at hgo
      have HGO := Lib.hid hgo
      have g0 := Cells.c1 hcl
      simp only [Nat.mul_one] at g0
      clear hd hgo hcl HG
      generalize l[k] = x at *
      rcases hb0 : (q == x)
      · have HB0 := Lib.hid hb0
        go_wp2_with fail
        go_roundw
        case rel => exact ⟨k + 1, by omega, by go_num, trivial, Lib.hid (by rw [HGO.out, idxP, HB0.out]; rfl)⟩
        case measure => simp [intOf]; omega
      · have HB0 := Lib.hid hb0
        go_wp2_with fail
        go_ret
        exact ⟨ret_int (by rw [HGO.out, idxP, HB0.out]; rfl), (by repeat (first | (with_reducible exact Below.refl _ _) | ((with_reducible refine below_setr ?_ ?_); focus (first | (simp; done) | (simp; omega) | omega)) | ((with_reducible refine below_allocr ?_ ?_); focus (first | (simp; done) | (simp; omega) | omega)) | (with_reducible refine Below.drew ?_) | (with_reducible refine below_drewN ?_ _)))⟩
    · have hkl : l.drop k = [] := List.drop_eq_nil_of_le (by omega)
      have hgo := HG.out
      rw [hkl] at hgo
      have HGO := Lib.hid hgo
      clear hkl hgo HG
      go_wp2_with fail
      go_ret
      exact ⟨ret_int (by rw [HGO.out]; rfl), (by repeat (first | (with_reducible exact Below.refl _ _) | ((with_reducible refine below_setr ?_ ?_); focus (first | (simp; done) | (simp; omega) | omega)) | ((with_reducible refine below_allocr ?_ ?_); focus (first | (simp; done) | (simp; omega) | omega)) | (with_reducible refine Below.drew ?_) | (with_reducible refine below_drewN ?_ _)))⟩
theorem contains_any (l : Sl Int) (q : Int) (w : World) (hr : Rd (· < w.heap.size) 1 ienc w l) :
    Calls Try.prog 41 #[.slice l.A l.l.length l.c, .int .i64 q] w fun e w' => e = .returned (.bool (l.l.contains q)) ∧ Below w.heap.size w w' := by
  have hcon := index_any l q w hr
  rcases idxP_ge (fun x => q == x) l.l 0 with ⟨h1, h2⟩ | ⟨j, x, h1, h2, h3, h4⟩
  · rw [h1] at hcon
    have hv : l.l.contains q = false := by
      rw [List.contains_eq_any_beq, List.any_eq_false]
      exact fun x hx => by simpa using h2 x hx
    have HV := Lib.hid hv
    clear h1 h2 hv
    go_enter Try.func41, Try.ntmps41
    go_wp2_with fail
    refine hcon.mono ?_
    clear hcon
    rintro e w1 ⟨rfl, hb1⟩
    go_wp2_with fail
    go_ret
    exact ⟨ret_bool (by rw [HV.out]), hb1⟩
  · rw [h1] at hcon
    have hv : l.l.contains q = true := by
      rw [List.contains_eq_any_beq, List.any_eq_true]
      exact ⟨x, List.mem_of_getElem? h2, h3⟩
    have HV := Lib.hid hv
    clear h1 h2 hv
    go_enter Try.func41, Try.ntmps41
    go_wp2_with fail
    refine hcon.mono ?_
    clear hcon
    rintro e w1 ⟨rfl, hb1⟩
    go_wp2_with fail
    go_ret
    exact ⟨ret_bool (by rw [HV.out]), hb1⟩
end Go.Proofs.Ytjbdjlgddjmkbaa
