/- Walks of package phone: Join, whole. -/
import Derived.Test.YthnblhbdfpmolaaPh16
namespace Go.Proofs.Ythnblhbdfpmolaa
open Go.RowKit
/-- Join: on an error the arguments come back; otherwise all three parts are new. -/
theorem phone_join (p : Phone) (ss : Sl Stock) (now : Sl Int) (w : World) (hr : RdPhone (· < w.heap.size) w p) (hs : RdStocks (· < w.heap.size) w ss) (hw : Rd (· < w.heap.size) 1 ienc w now) (hb : ss.l.length * 40 ≤ 140737488355328) :
    Calls Try.prog 28 #[p.v, .slice ss.A ss.l.length ss.c, .slice now.A now.l.length now.c] w fun e w' => ∃ (p' : Phone) (s' : Sl Stock) (n' : Sl Note), e = .returned (.tuple #[p'.v, .slice s'.A s'.l.length s'.c, .slice n'.A n'.l.length n'.c, .int .i64 (p.d.join (ss.l.map Stock.d) now.l).2.2.2]) ∧ p'.d = (p.d.join (ss.l.map Stock.d) now.l).1 ∧ s'.l.map Stock.d = (p.d.join (ss.l.map Stock.d) now.l).2.1 ∧ n'.l.map Note.d = (p.d.join (ss.l.map Stock.d) now.l).2.2.1 ∧
      Hid (((p.d.join (ss.l.map Stock.d) now.l).2.2.2 ≠ 0 ∧ p' = p ∧ s' = ss ∧ n' = ⟨none, 0, []⟩) ∨ ((p.d.join (ss.l.map Stock.d) now.l).2.2.2 = 0 ∧ RdPhone (fun b => w.heap.size ≤ b ∧ b < w'.heap.size) w' p' ∧ RdStocks (fun b => w.heap.size ≤ b ∧ b < w'.heap.size) w' s' ∧ RdNotes (fun b => w.heap.size ≤ b ∧ b < w'.heap.size) w' n')) ∧ Below w.heap.size w w' := by
  rcases hf : okJoin p.d (ss.l.map Stock.d) now.l
  · refine (phone_join_no p ss now w hr hs hw hb hf).mono ?_
    rintro e w' ⟨rfl, hbw⟩
    have hj : p.d.join (ss.l.map Stock.d) now.l = (p.d, ss.l.map Stock.d, [], 1) := by unfold PhoneD.join; rw [hf]; rfl
    rw [hj]
    exact ⟨p, ss, ⟨none, 0, []⟩, rfl, rfl, rfl, rfl, .inl ⟨by simp, rfl, rfl, rfl⟩, hbw⟩
  · have hf' := hf
    simp only [okJoin, Bool.and_eq_true] at hf'
    obtain ⟨hF, hG, hK⟩ := hf'
    rcases hc : p.cut
    · refine (phone_join_on p ss now w hr hs hw hb hF hG hK hc).mono ?_
      rintro e w' ⟨rfl, hbw⟩
      have hc' : p.d.cut = false := hc
      have hj : p.d.join (ss.l.map Stock.d) now.l = (p.d, ss.l.map Stock.d, [], 7) := by unfold PhoneD.join; rw [hf, if_pos rfl, if_neg (by rw [hc']; simp)]
      rw [hj]
      exact ⟨p, ss, ⟨none, 0, []⟩, rfl, rfl, rfl, rfl, .inl ⟨by simp, rfl, rfl, rfl⟩, hbw⟩
    · have hc' : p.d.cut = true := hc
      have hj : p.d.join (ss.l.map Stock.d) now.l = ({ p.d with cut := false, H := [], S := seenJ p.id 0 p.S.l now.l }, joinGo p.id p.H.l (ss.l.map Stock.d), p.N.l.map Note.d, 0) := by unfold PhoneD.join; rw [hf, if_pos rfl, if_pos hc']; rfl
      rw [hj]
      refine (phone_join_ok p ss now w hr hs hw hb hF hG hK hc).mono ?_
      rintro e w' ⟨p', s', n', rfl, h1, h2, h3, h4, h5, h6, hbw⟩
      exact ⟨p', s', n', rfl, h1, h2, h3, .inr ⟨rfl, h4, h5, h6⟩, hbw⟩
end Go.Proofs.Ythnblhbdfpmolaa
