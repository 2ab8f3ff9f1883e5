/- The plain law of where notes are, and of what is missing. It holds without condition. -/
import Derived.Test.YthnblhbdfpmolaaMLatmxaw
namespace Go.Proofs.Ythnblhbdfpmolaa
/-- The number of the note of a device that a note needs, or -1. -/
def sqN (n : NoteD) (d : Nat) : Int := if (d : Int) = n.dev then n.seq - 1 else seenN n.af d - 1
theorem afOk_at : ∀ {l : List Int} {d k : Int} {i : Nat} (hi : i < l.length), afOk d k l = true → k + i = d → l[i] = 0
  | x :: l, d, k, 0, _, h, hk => by
    by_cases hc : rngB x 0 10000 = false ∨ (k = d ∧ x ≠ 0)
    · rw [afOk_no hc] at h; cases h
    · simp only [List.getElem_cons_zero]
      rcases Classical.em (x = 0) with h0 | h0
      · exact h0
      · exact absurd (.inr ⟨by simpa using hk, h0⟩) hc
  | x :: l, d, k, i + 1, hi, h, hk => by
    by_cases hc : rngB x 0 10000 = false ∨ (k = d ∧ x ≠ 0)
    · rw [afOk_no hc] at h; cases h
    · rw [afOk_go hc] at h
      simp only [List.getElem_cons_succ]
      exact afOk_at (by simpa using hi) h (by omega)
theorem afOk_rng : ∀ {l : List Int} {d k : Int} {i : Nat} (hi : i < l.length), afOk d k l = true → 0 ≤ l[i] ∧ l[i] ≤ 10000
  | x :: l, d, k, 0, _, h => by
    by_cases hc : rngB x 0 10000 = false ∨ (k = d ∧ x ≠ 0)
    · rw [afOk_no hc] at h; cases h
    · simp only [List.getElem_cons_zero]
      rcases hb : rngB x 0 10000
      · exact absurd (.inl hb) hc
      · exact rngB_iff.1 hb
  | x :: l, d, k, i + 1, hi, h => by
    by_cases hc : rngB x 0 10000 = false ∨ (k = d ∧ x ≠ 0)
    · rw [afOk_no hc] at h; cases h
    · rw [afOk_go hc] at h
      simp only [List.getElem_cons_succ]
      exact afOk_rng (by simpa using hi) h
theorem right_af {n : NoteD} (h : n.right = true) : afOk n.dev 0 n.af = true := by
  unfold NoteD.right at h
  rw [if_pos (right_ok0 (by unfold NoteD.right; exact h))] at h
  exact h
theorem seenN_at {l : List Int} {i : Nat} (h : i < l.length) : seenN l i = l[i] := by
  unfold seenN; rw [if_pos (by omega)]; simp [List.getD, h]
theorem right_self {n : NoteD} (h : n.right = true) : seenN n.af n.dev = 0 := by
  have hr := right_rng h
  obtain ⟨d, hd⟩ := Int.eq_ofNat_of_zero_le hr.1.1
  rw [hd]
  rcases Nat.lt_or_ge d n.af.length with hl | hl
  · rw [seenN_at hl]
    exact afOk_at hl (right_af h) (by rw [hd]; omega)
  · unfold seenN; rw [if_neg (by omega)]
theorem seen_rng {n : NoteD} (h : n.right = true) (d : Nat) : 0 ≤ seenN n.af d ∧ seenN n.af d ≤ 10000 := by
  rcases Nat.lt_or_ge d n.af.length with hl | hl
  · rw [seenN_at hl]; exact afOk_rng hl (right_af h)
  · unfold seenN; rw [if_neg (by omega)]; omega
theorem sq_rng {n : NoteD} (h : n.right = true) (d : Nat) : -1 ≤ sqN n d ∧ sqN n d ≤ 9999 := by
  have h1 := seen_rng h d
  have h2 := right_rng h
  unfold sqN
  split <;> omega
theorem missOne_iff {l : List NoteD} {n : NoteD} (h : n.right = true) : missOne l n = true ↔ ∃ d : Nat, d < 12 ∧ 0 ≤ sqN n d ∧ l.any (isK d (sqN n d)) = false := by
  have hr := right_rng h
  unfold missOne
  simp only [Bool.or_eq_true, Bool.and_eq_true, decide_eq_true_eq, Bool.not_eq_true', List.any_eq_true (l := List.range n.af.length), List.mem_range]
  constructor
  · rintro (⟨h1, h2⟩ | ⟨d, hd, h1, h2⟩)
    · have hdev : ((n.dev.toNat : Nat) : Int) = n.dev := by omega
      refine ⟨n.dev.toNat, by omega, ?_, ?_⟩
      · unfold sqN; rw [if_pos hdev]; omega
      · unfold sqN; rw [if_pos hdev, hdev]; exact h2
    · by_cases hdd : (d : Int) = n.dev
      · rw [hdd, right_self h] at h1; omega
      · refine ⟨d, by omega, ?_, ?_⟩
        · unfold sqN; rw [if_neg hdd]; omega
        · unfold sqN; rw [if_neg hdd]; exact h2
  · rintro ⟨d, hd, h1, h2⟩
    unfold sqN at h1 h2
    by_cases hdd : (d : Int) = n.dev
    · rw [if_pos hdd] at h1 h2
      left
      rw [hdd] at h2
      exact ⟨by omega, h2⟩
    · rw [if_neg hdd] at h1 h2
      right
      refine ⟨d, ?_, by omega, h2⟩
      have := (seenN_pos (l := n.af) (d := (d : Int)) (by omega)).2
      omega
theorem apart_dupN : ∀ {l : List NoteD}, l.Pairwise ApartN → dupN l = false
  | [], _ => rfl
  | n :: l, h => by
    obtain ⟨h1, h2⟩ := List.pairwise_cons.1 h
    simp only [dupN, Bool.or_eq_false_iff]
    refine ⟨?_, apart_dupN h2⟩
    rw [List.any_eq_false]
    intro m hm
    have := apart_isK.1 (h1 m hm).symm
    simp [this]
/-- The first k places as a map's entries say it: different places. -/
def ApartK (l : List NoteD) (k : Nat) : Prop := ∀ i j, i < j → j < k → ApartN (at! l i) (at! l j)
theorem apartK_all {l : List NoteD} (h : ApartK l l.length) : l.Pairwise ApartN := by
  rw [List.pairwise_iff_getElem]
  intro i j hi hj hij
  have := h i j hij hj
  rwa [at!_eq hi, at!_eq hj] at this
theorem apartK_of {l : List NoteD} (h : l.Pairwise ApartN) {k : Nat} (hk : k ≤ l.length) : ApartK l k := by
  intro i j hij hj
  rw [List.pairwise_iff_getElem] at h
  rw [at!_eq (show i < l.length by omega), at!_eq (show j < l.length by omega)]
  exact h i j (by omega) (by omega) hij
theorem placesE_dup {l : List NoteD} {i j : Nat} (hij : i < j) (hj : j < l.length) (hd : (at! l i).dev = (at! l j).dev) (hs : (at! l i).seq = (at! l j).seq) : placesE l = 5 := by
  unfold placesE
  rcases h : dupN l
  · exact absurd ⟨hd, hs⟩ (apartK_of (dupN_apart h) (Nat.le_refl _) i j hij hj)
  · rfl
theorem placesE_miss {l : List NoteD} (ha : l.Pairwise ApartN) {n : NoteD} (hn : n ∈ l) (hm : missOne l n = true) : placesE l = 18 := by
  unfold placesE
  rw [apart_dupN ha, if_neg (by simp), if_pos (show missN l = true from List.any_eq_true.2 ⟨n, hn, hm⟩)]
theorem placesE_ok {l : List NoteD} (ha : l.Pairwise ApartN) (h : ∀ n, n ∈ l → missOne l n = false) : placesE l = 0 := by
  unfold placesE
  rw [apart_dupN ha, if_neg (by simp), if_neg]
  unfold missN
  rw [List.any_eq_true]
  rintro ⟨n, hn, hm⟩
  rw [h n hn] at hm; cases hm
theorem any_isK {l : List NoteD} {d s : Int} : l.any (isK d s) = true ↔ ∃ j, j < l.length ∧ (at! l j).dev = d ∧ (at! l j).seq = s := by
  rw [List.any_eq_true]
  constructor
  · rintro ⟨n, hn, hk⟩
    obtain ⟨j, hj, rfl⟩ := List.mem_iff_getElem.1 hn
    exact ⟨j, hj, by rw [at!_eq hj]; exact isK_iff.1 hk⟩
  · rintro ⟨j, hj, hk⟩
    rw [at!_eq hj] at hk
    exact ⟨l[j], List.getElem_mem hj, isK_iff.2 hk⟩
end Go.Proofs.Ythnblhbdfpmolaa
