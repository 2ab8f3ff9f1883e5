/- Walk of the reference: add. -/
import Derived.Test.YtjbdjlgddjmkbaaFvT3
import Derived.Test.YtjbdjlgddjmkbaaFvSm
namespace Go.Proofs.Ytjbdjlgddjmkbaa
open Go.RowKit
theorem addL_app {m d : Int} : ∀ {p q : List Bal}, (∀ x ∈ p, x.m < m) → addL m d (p ++ q) = p ++ addL m d q
  | [], _, _ => rfl
  | x :: p, q, h => by
    rw [List.cons_append]
    show (if x.m < m then x :: addL m d (p ++ q) else _) = _
    rw [if_pos (h x (by simp)), addL_app (fun y hy => h y (by simp [hy]))]; rfl
def AddR (m d : Int) (l : List Bal) (k : Nat) (pt : Bool) (ou : List Bal) : Prop :=
  (pt = false → ou = l.take k ∧ ∀ x ∈ l.take k, x.m < m) ∧ (pt = true → ou ++ l.drop k = addL m d l ∧ ∀ x ∈ l.drop k, m < x.m)
set_option maxRecDepth 20000 in
set_option maxHeartbeats 4000000 in
theorem radd_any (s : Sl Bal) (m d : Int) (w : World) (hr : Rd (· < w.heap.size) 2 Bal.enc w s) (hs : SortL s.l) (hl : s.l.length ≤ 1000) (ho1 : -9223372036854775808 ≤ ofL m s.l + d) (ho2 : ofL m s.l + d ≤ 9223372036854775807) :
    Calls Try.prog 38 #[.slice s.A s.l.length s.c, .int .i64 m, .int .i64 d] w fun e w' => ∃ A c, e = .returned (.slice A (addL m d s.l).length c) ∧ Own w.heap.size 39 2 Bal.enc w' ⟨A, c, addL m d s.l⟩ ∧ Below w.heap.size w w' := by
  obtain ⟨SA, sc, l⟩ := s
  simp only at hs hl ho1 ho2
  have HR := Lib.hid hr
  have HS := Lib.hid hs
  clear hr hs
  simp only
  go_enter Try.func38, Try.ntmps38
  go_wp2_with fail
  go_loopw [7, 8, 9, 10] (fun vo vp vi u wr => ∃ (k : Nat) (A : Option Addr) (c : Nat) (ou : List Bal) (pt : Bool), k ≤ l.length ∧ vi = .int .i64 k ∧ vp = .bool pt ∧ vo = .slice A ou.length c ∧ Hid (Own w.heap.size 39 2 Bal.enc wr ⟨A, c, ou⟩) ∧ Below w.heap.size w wr ∧ ou.length ≤ k + 1 ∧ Hid (AddR m d l k pt ou)) (fun _ _ vi _ _ => l.length - (intOf vi).toNat)
  case atStart => exact ⟨0, none, 0, [], false, by omega, rfl, rfl, rfl, Lib.hid (Own.nil _ _ _ _ _), (by repeat (first | (with_reducible exact Below.refl _ _) | ((with_reducible refine below_setr ?_ ?_); focus (first | (simp; done) | (simp; omega) | omega)) | ((with_reducible refine below_allocr ?_ ?_); focus (first | (simp; done) | (simp; omega) | omega)) | (with_reducible refine Below.drew ?_) | (with_reducible refine below_drewN ?_ _))), by simp, Lib.hid ⟨fun _ => ⟨by simp, by simp⟩, fun h => by cases h⟩⟩
  case round =>
    obtain ⟨k, A, c, ou, pt, hk, rfl, rfl, rfl, HOW, hbel, hol, HAR⟩ := hrel
    have hhe : w.heap.size ≤ wr.heap.size := hbel.size
    by_cases hlt : k < l.length
    · obtain ⟨b, o, rfl, hb, hcl⟩ := HR.out.at1 hlt
      obtain ⟨g0, g1⟩ := Cells.c2 (hcl.keep (hbel.block b hb))
      have hcl2 := hcl
      have htk : l.take (k + 1) = l.take k ++ [l[k]] := (List.take_append_getElem hlt).symm
      have hdr : l.drop k = l[k] :: l.drop (k + 1) := List.drop_eq_getElem_cons hlt
      have hso : ∀ y ∈ l.drop (k + 1), (l[k]).m < y.m := fun y hy => by
        have := HS.out
        rw [← List.take_append_drop k l, hdr] at this
        exact (List.pairwise_cons.1 (List.pairwise_append.1 this).2.1).1 y hy
      have hof : ofL (l[k]).m l = (l[k]).n := ofL_mem HS.out (List.getElem_mem hlt)
      simp only at g0 g1
      generalize l[k] = x at *
      obtain ⟨xm, xn⟩ := x
      simp only at g0 g1 hso hof
      have HTK := Lib.hid htk
      have HDR := Lib.hid hdr
      have HSO := Lib.hid hso
      clear hcl htk hdr hso
      rcases pt with _ | _
      · obtain ⟨ha, _⟩ := HAR.out
        obtain ⟨ha1, ha2⟩ := ha rfl
        have hsp : addL m d l = ou ++ addL m d (⟨xm, xn⟩ :: l.drop (k + 1)) := by
          rw [← HDR.out, ha1, ← addL_app ha2, List.take_append_drop]
        have HSP := Lib.hid hsp
        have HA1 := Lib.hid ha1
        have HA2 := Lib.hid ha2
        clear ha ha1 ha2 hsp HAR
        rcases Int.lt_trichotomy xm m with hm | hm | hm
        · have hne : (xm == m) = false := by simp; omega
          go_wp2_with (at_builtin
                       go_must (refine wpl_append_sl _ rfl (.tmp 47) (.tmp 49) _ rfl Try.underlying22 infoBal (by omega) Bal.k Bal.one ⟨A, c, ou⟩ ⟨some ⟨wr.heap.size + 1, 0, none⟩, 1, [⟨xm, xn⟩]⟩ rfl rfl ((HOW.out.alloc _).alloc _) (by simpa using rd_lit (e := 39) (wr.alloc (.cells #[.int .i64 xm, .int .i64 xn] 39)) #[.int .i64 xm, .int .i64 xn] [(⟨xm, xn⟩ : Bal)] (by simp [maxLen]) rfl Bal.k) (by simp [maxLen]; omega) (by simp; omega) (by simp; omega) ?_)
                       intro A5 c5 w5 hown5 hg5 hat5
                       apply Hid.out)
          refine Lib.hid ?_
          have hprf : AddR m d l (k + 1) false (ou ++ [⟨xm, xn⟩]) := by
            refine ⟨fun _ => ⟨by rw [HTK.out, ← HA1.out], fun y hy => ?_⟩, fun h => by cases h⟩
            rw [HTK.out] at hy
            rcases List.mem_append.1 hy with h | h
            · exact HA2.out y h
            · simp at h; subst h; exact hm
          have hbel5 : Below w.heap.size w w5 := Below.grown (Below.alloc (Below.alloc hbel (by omega) _) (by simp; omega) _) hg5 (by simp; omega) (fun j hj => by
            rcases HOW.out.form with ⟨h0, _⟩ | ⟨g', h0, h1, _⟩
            · simp only at h0; rw [h0] at hj; simp [Value.ownBlock] at hj
            · simp only at h0; rw [h0] at hj; simp [Value.ownBlock] at hj; omega)
          have HO5 := Lib.hid hown5
          clear hown5 hg5 hat5
          have HAR5 : Hid (AddR m d l (k + 1) false (ou ++ [⟨xm, xn⟩])) := Lib.hid (by exact hprf)
          go_wp2_with fail
          go_roundw
          case rel => exact ⟨k + 1, A5, c5, ou ++ [⟨xm, xn⟩], false, by omega, by go_num, rfl, by simp, HO5, hbel5, by simp; omega, HAR5⟩
          case measure => simp [intOf]; omega
        · have hm' : m = xm := hm.symm
          subst hm'
          have ho1' : -9223372036854775808 ≤ xn + d := by rw [← hof]; exact ho1
          have ho2' : xn + d ≤ 9223372036854775807 := by rw [← hof]; exact ho2
          have HOF := Lib.hid hof
          clear hof ho1 ho2
          have hprf : AddR m d l (k + 1) true (ou ++ [⟨m, xn + d⟩]) := by
            refine ⟨fun h => (by cases h), fun _ => ⟨?_, fun y hy => HSO.out y hy⟩⟩
            rw [HSP.out]
            simp [addL]
          go_wp2_with (at_builtin
                       go_must (refine wpl_append_sl _ rfl (.tmp 47) (.tmp 49) _ rfl Try.underlying22 infoBal (by omega) Bal.k Bal.one ⟨A, c, ou⟩ ⟨some ⟨wr.heap.size + 1, 0, none⟩, 1, [⟨m, xn + d⟩]⟩ rfl rfl ((HOW.out.alloc _).alloc _) (by simpa using rd_lit (e := 39) (wr.alloc (.cells #[.int .i64 m, .int .i64 (xn + d)] 39)) #[.int .i64 m, .int .i64 (xn + d)] [(⟨m, xn + d⟩ : Bal)] (by simp [maxLen]) rfl Bal.k) (by simp [maxLen]; omega) (by simp; omega) (by simp; omega) ?_)
                       intro A5 c5 w5 hown5 hg5 hat5
                       apply Hid.out)
          refine Lib.hid ?_
          have hbel5 : Below w.heap.size w w5 := Below.grown (Below.alloc (Below.alloc hbel (by omega) _) (by simp; omega) _) hg5 (by simp; omega) (fun j hj => by
            rcases HOW.out.form with ⟨h0, _⟩ | ⟨g', h0, h1, _⟩
            · simp only at h0; rw [h0] at hj; simp [Value.ownBlock] at hj
            · simp only at h0; rw [h0] at hj; simp [Value.ownBlock] at hj; omega)
          have HO5 := Lib.hid hown5
          clear hown5 hg5 hat5
          have HAR5 : Hid (AddR m d l (k + 1) true (ou ++ [⟨m, xn + d⟩])) := Lib.hid (by exact hprf)
          go_wp2_with fail
          go_roundw
          case rel => exact ⟨k + 1, A5, c5, ou ++ [⟨m, xn + d⟩], true, by omega, by go_num, rfl, by simp, HO5, hbel5, by simp; omega, HAR5⟩
          case measure => simp [intOf]; omega
        · have hne : (xm == m) = false := by simp; omega
          have hgt : m < xm := hm
          have hprf : AddR m d l (k + 1) true (ou ++ [⟨m, d⟩] ++ [⟨xm, xn⟩]) := by
            refine ⟨fun h => (by cases h), fun _ => ⟨?_, fun y hy => by have := HSO.out y hy; omega⟩⟩
            rw [HSP.out]
            have hx1 : ¬ xm < m := by omega
            have hx2 : ¬ xm = m := by omega
            simp [addL, hx1, hx2]
          go_wp2_with (at_builtin
                       go_must (refine wpl_append_sl _ rfl (.tmp 28) (.tmp 32) _ rfl Try.underlying22 infoBal (by omega) Bal.k Bal.one ⟨A, c, ou⟩ ⟨some ⟨wr.heap.size, 0, none⟩, 1, [⟨m, d⟩]⟩ rfl rfl (HOW.out.alloc _) (by simpa using rd_lit (e := 39) (wr) #[.int .i64 m, .int .i64 d] [(⟨m, d⟩ : Bal)] (by simp [maxLen]) rfl Bal.k) (by simp [maxLen]; omega) (by simp; omega) (by simp; omega) ?_)
                       intro A5 c5 w5 hown5 hg5 hat5
                       apply Hid.out)
          refine Lib.hid ?_
          have hbel5 : Below w.heap.size w w5 := Below.grown (Below.alloc hbel (by omega) _) hg5 (by simp; omega) (fun j hj => by
            rcases HOW.out.form with ⟨h0, _⟩ | ⟨g', h0, h1, _⟩
            · simp only at h0; rw [h0] at hj; simp [Value.ownBlock] at hj
            · simp only at h0; rw [h0] at hj; simp [Value.ownBlock] at hj; omega)
          have HO5 := Lib.hid hown5
          clear hown5 hg5 hat5
          have hol' : ou.length ≤ k := by rw [HA1.out]; simp; omega
          obtain ⟨ou2, hou2⟩ : ∃ x, x = ou ++ [(⟨m, d⟩ : Bal)] := ⟨_, rfl⟩
          have hol2 : ou2.length = ou.length + 1 := by rw [hou2]; simp
          rw [← hou2] at HO5 hprf
          rw [← hol2]
          have HOL2 := Lib.hid hol2
          have hol3 : ou2.length ≤ k + 1 := by omega
          clear hol2 hou2
          have HO4 := HO5
          have hbel4 := hbel5
          have hs4 : w.heap.size ≤ w5.heap.size := hbel5.size
          obtain ⟨g0', g1'⟩ := Cells.c2 (hcl2.keep (hbel5.block b hb))
          simp only at g0' g1'
          clear g0 g1 HO5 hbel5
          go_wp2_with (at_builtin
                       go_must (refine wpl_append_sl _ rfl (.tmp 47) (.tmp 49) _ rfl Try.underlying22 infoBal (by omega) Bal.k Bal.one ⟨A5, c5, ou2⟩ ⟨some ⟨w5.heap.size + 1, 0, none⟩, 1, [⟨xm, xn⟩]⟩ rfl rfl ((HO4.out.alloc _).alloc _) (by simpa using rd_lit (e := 39) (w5.alloc (.cells #[.int .i64 xm, .int .i64 xn] 39)) #[.int .i64 xm, .int .i64 xn] [(⟨xm, xn⟩ : Bal)] (by simp [maxLen]) rfl Bal.k) (by simp [maxLen]; omega) (by simp; omega) (by simp; omega) ?_)
                       intro A5 c5 w5 hown5 hg5 hat5
                       apply Hid.out)
          refine Lib.hid ?_
          have hbel5 : Below w.heap.size w w5 := Below.grown (Below.alloc (Below.alloc hbel4 (by omega) _) (by simp; omega) _) hg5 (by simp; omega) (fun j hj => by
            rcases HO4.out.form with ⟨h0, _⟩ | ⟨g', h0, h1, _⟩
            · simp only at h0; rw [h0] at hj; simp [Value.ownBlock] at hj
            · simp only at h0; rw [h0] at hj; simp [Value.ownBlock] at hj; omega)
          have HO5 := Lib.hid hown5
          clear hown5 hg5 hat5
          have HAR5 : Hid (AddR m d l (k + 1) true (ou2 ++ [⟨xm, xn⟩])) := Lib.hid (by exact hprf)
          go_wp2_with fail
          go_roundw
          case rel => exact ⟨k + 1, A5, c5, ou2 ++ [⟨xm, xn⟩], true, by omega, by go_num, rfl, by simp, HO5, hbel5, by simp; omega, HAR5⟩
          case measure => simp [intOf]; omega
      · obtain ⟨_, ha⟩ := HAR.out
        obtain ⟨ha1, ha2⟩ := ha rfl
        have hm : m < xm := ha2 ⟨xm, xn⟩ (by rw [HDR.out]; simp)
        have hne : (xm == m) = false := by simp; omega
        have HA1 := Lib.hid ha1
        have HA2 := Lib.hid ha2
        clear ha ha1 ha2 HAR
        go_wp2_with (at_builtin
                     go_must (refine wpl_append_sl _ rfl (.tmp 47) (.tmp 49) _ rfl Try.underlying22 infoBal (by omega) Bal.k Bal.one ⟨A, c, ou⟩ ⟨some ⟨wr.heap.size + 1, 0, none⟩, 1, [⟨xm, xn⟩]⟩ rfl rfl ((HOW.out.alloc _).alloc _) (by simpa using rd_lit (e := 39) (wr.alloc (.cells #[.int .i64 xm, .int .i64 xn] 39)) #[.int .i64 xm, .int .i64 xn] [(⟨xm, xn⟩ : Bal)] (by simp [maxLen]) rfl Bal.k) (by simp [maxLen]; omega) (by simp; omega) (by simp; omega) ?_)
                     intro A5 c5 w5 hown5 hg5 hat5
                     apply Hid.out)
        refine Lib.hid ?_
        have hprf : AddR m d l (k + 1) true (ou ++ [⟨xm, xn⟩]) := by
          refine ⟨fun h => (by cases h), fun _ => ⟨?_, fun y hy => HA2.out y (by rw [HDR.out]; simp [hy])⟩⟩
          rw [← HA1.out, HDR.out]; simp
        have hbel5 : Below w.heap.size w w5 := Below.grown (Below.alloc (Below.alloc hbel (by omega) _) (by simp; omega) _) hg5 (by simp; omega) (fun j hj => by
          rcases HOW.out.form with ⟨h0, _⟩ | ⟨g', h0, h1, _⟩
          · simp only at h0; rw [h0] at hj; simp [Value.ownBlock] at hj
          · simp only at h0; rw [h0] at hj; simp [Value.ownBlock] at hj; omega)
        have HO5 := Lib.hid hown5
        clear hown5 hg5 hat5
        have HAR5 : Hid (AddR m d l (k + 1) true (ou ++ [⟨xm, xn⟩])) := Lib.hid (by exact hprf)
        go_wp2_with fail
        go_roundw
        case rel => exact ⟨k + 1, A5, c5, ou ++ [⟨xm, xn⟩], true, by omega, by go_num, rfl, by simp, HO5, hbel5, by simp; omega, HAR5⟩
        case measure => simp [intOf]; omega
    · have hk2 : k = l.length := by omega
      subst hk2
      rcases pt with _ | _
      · obtain ⟨ha, _⟩ := HAR.out
        obtain ⟨ha1, ha2⟩ := ha rfl
        rw [List.take_length] at ha1 ha2
        subst ha1
        have hprf : addL m d ou = ou ++ [⟨m, d⟩] := by
          have := addL_app (m := m) (d := d) (q := []) ha2
          simpa [addL] using this
        have HPRF := Lib.hid hprf
        clear ha ha2 hprf HAR
        go_wp2_with (at_builtin
                     go_must (refine wpl_append_sl _ rfl (.tmp 53) (.tmp 57) _ rfl Try.underlying22 infoBal (by omega) Bal.k Bal.one ⟨A, c, ou⟩ ⟨some ⟨wr.heap.size, 0, none⟩, 1, [⟨m, d⟩]⟩ rfl rfl (HOW.out.alloc _) (by simpa using rd_lit (e := 39) (wr) #[.int .i64 m, .int .i64 d] [(⟨m, d⟩ : Bal)] (by simp [maxLen]) rfl Bal.k) (by simp [maxLen]; omega) (by simp; omega) (by simp; omega) ?_)
                     intro A5 c5 w5 hown5 hg5 hat5
                     apply Hid.out)
        refine Lib.hid ?_
        have hbel5 : Below w.heap.size w w5 := Below.grown (Below.alloc hbel (by omega) _) hg5 (by simp; omega) (fun j hj => by
          rcases HOW.out.form with ⟨h0, _⟩ | ⟨g', h0, h1, _⟩
          · simp only at h0; rw [h0] at hj; simp [Value.ownBlock] at hj
          · simp only at h0; rw [h0] at hj; simp [Value.ownBlock] at hj; omega)
        have HO5 := Lib.hid hown5
        clear hown5 hg5 hat5
        go_wp2_with fail
        go_ret
        refine ⟨A5, c5, ?_, ?_, hbel5⟩
        · rw [HPRF.out]; simp
        · rw [HPRF.out]; exact HO5.out
      · obtain ⟨_, ha⟩ := HAR.out
        obtain ⟨ha1, _⟩ := ha rfl
        have hou : ou = addL m d l := by simpa using ha1
        have HOU := Lib.hid hou
        clear ha ha1 hou HAR
        go_wp2_with fail
        go_ret
        exact ⟨A, c, by rw [HOU.out]; rfl, by rw [← HOU.out]; exact HOW.out, hbel⟩
end Go.Proofs.Ytjbdjlgddjmkbaa
