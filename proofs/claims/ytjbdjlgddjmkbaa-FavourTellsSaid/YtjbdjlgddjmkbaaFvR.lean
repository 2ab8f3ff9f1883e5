/- The ledger of favours as data: the facts behind the statements. No program here. -/
import Derived.Test.YtjbdjlgddjmkbaaFvQ
namespace Go.Proofs.Ytjbdjlgddjmkbaa
section
variable {l l' : List Bal} {rs rs' os : List Int} {t u : Int}
/-- FavourSum: who does not ride keeps the minutes. -/
theorem sum_keep (h : fineB l rs t = true) {x : Bal} (hx : x ∈ l) (hr : x.m ∉ rs) : ofL x.m (outF l rs t) = x.n := by
  have R := raw_ok h
  rw [R.of_, R.out hr, ofL_mem (rightL_iff.1 (fineB_iff.1 h).1).1 hx]; omega
theorem sum_keep2 (h : fineB l rs t = true) {x : Bal} (hx : x ∈ outF l rs t) (hr : x.m ∉ rs) : ofL x.m l = x.n := by
  have R := raw_ok h
  have := ofL_mem R.sort hx
  rw [R.of_, R.out hr] at this; omega
/-- FavourBears: two parts. -/
theorem part_gap (h : fineB l rs t = true) {x y : Int} (hx : x ∈ rs) (hxb : x ≠ bearerF l rs) (hy : y ∈ rs) (hyb : y ≠ bearerF l rs) :
    (ofL x l - ofL x (outF l rs t)) - (ofL y l - ofL y (outF l rs t)) ≤ 1 ∧ -1 ≤ (ofL x l - ofL x (outF l rs t)) - (ofL y l - ofL y (outF l rs t)) ∧
    (0 < (ofL x l - ofL x (outF l rs t)) - (ofL y l - ofL y (outF l rs t)) → ofL y l ≤ ofL x l) := by
  have R := raw_ok h
  obtain ⟨i, hi⟩ := List.getElem?_of_mem (R.mem_o hx hxb)
  obtain ⟨j, hj⟩ := List.getElem?_of_mem (R.mem_o hy hyb)
  rw [R.of_, R.of_, R.other hi, R.other hj]
  generalize hq : t / ((othersF l rs).length : Int) = q
  generalize hr : t % ((othersF l rs).length : Int) = r
  have key : (i : Int) < r → ¬ (j : Int) < r → ofL y l ≤ ofL x l := fun a b => by
    have hij : i < j := by omega
    have hil := (List.getElem?_eq_some_iff.1 hi)
    have hjl := (List.getElem?_eq_some_iff.1 hj)
    obtain ⟨hi1, hi2⟩ := hil
    obtain ⟨hj1, hj2⟩ := hjl
    have := List.pairwise_iff_getElem.1 R.ord i j hi1 hj1 hij
    rw [hi2, hj2, befB_iff] at this; omega
  refine ⟨?_, ?_, ?_⟩
  · split <;> split <;> omega
  · split <;> split <;> omega
  · intro h0
    refine key ?_ ?_
    · refine Decidable.byContradiction fun hn => ?_
      rw [if_neg hn] at h0
      split at h0 <;> omega
    · intro hn
      rw [if_pos hn] at h0
      split at h0 <;> omega
theorem bear_own (h : fineB l rs t = true) (h2 : 2 ≤ rs.length) : ofL (bearerF l rs) (outF l rs t) = ofL (bearerF l rs) l + t := by
  have R := raw_ok h
  rw [R.of_, R.bearer (R.two.2 h2)]
theorem bear_least (h : fineB l rs t = true) {x : Int} (hx : x ∈ rs) : ¬ (ofL x l < ofL (bearerF l rs) l ∨ (ofL x l = ofL (bearerF l rs) l ∧ x < bearerF l rs)) := by
  have R := raw_ok h
  by_cases e : x = bearerF l rs
  · subst e; omega
  · have := R.low.2 x hx e
    rw [lowB_iff] at this; omega
def sumF (f : Int → Int) : List Int → Int
  | [] => 0
  | x :: r => f x + sumF f r
theorem sumF_perm {f : Int → Int} {a b : List Int} (h : a.Perm b) : sumF f a = sumF f b := by
  induction h with
  | nil => rfl
  | cons x _ ih => simp only [sumF, ih]
  | swap x y l => simp only [sumF]; omega
  | trans _ _ h1 h2 => exact h1.trans h2
theorem sumF_app {f : Int → Int} : ∀ {a b : List Int}, sumF f (a ++ b) = sumF f a + sumF f b
  | [], b => by simp [sumF]
  | x :: r, b => by simp only [List.cons_append, sumF, @sumF_app f r b]; omega
theorem sumF_parts {f : Int → Int} {q r : Int} : ∀ (o : List Int) (i : Int), (∀ (j : Nat) k, o[j]? = some k → f k = q + if i + j < r then 1 else 0) → sumF f o = partsN q r i o.length
  | [], _, _ => rfl
  | x :: o, i, h => by
    have h0 := h 0 x rfl
    rw [show i + ((0 : Nat) : Int) = i from by omega] at h0
    simp only [sumF, List.length_cons, partsN]
    rw [h0, sumF_parts o (i + 1) (fun j k hk => by
      have := h (j + 1) k (by simpa using hk)
      rw [this]
      have e : i + ((j + 1 : Nat) : Int) = i + 1 + j := by push_cast; omega
      rw [e])]
/-- All parts together. -/
theorem parts_sum (h : fineB l rs t = true) (h2 : 2 ≤ rs.length) : sumF (fun x => if x = bearerF l rs then 0 else ofL x l - ofL x (outF l rs t)) rs = t := by
  have R := raw_ok h
  have hol := R.two.2 h2
  rw [← sumF_perm R.perm]
  simp only [sumF, if_true]
  rw [sumF_parts (q := t / (othersF l rs).length) (r := t % (othersF l rs).length) _ 0 (fun j k hk => by
    have hne : k ≠ bearerF l rs := fun e => R.nb (by rw [← e]; exact List.mem_of_getElem? hk)
    simp only [if_neg hne, Int.zero_add]
    rw [R.of_, R.other hk]; omega), partsN_all (fineB_iff.1 h).2.2.1 (List.length_pos_iff.2 hol)]
  omega
/-! The order in which riders are named; another ledger with the same minutes of the riders. -/
theorem low_congr (hof : ∀ k ∈ rs, ofL k l = ofL k l') {b : Int} (h : IsLow l b rs) : IsLow l' b rs :=
  ⟨h.1, fun x hx hne => by
    have := h.2 x hx hne
    rw [lowB_iff] at *
    rw [← hof b h.1, ← hof x hx]; exact this⟩
theorem bearer_congr (hof : ∀ k ∈ rs, ofL k l = ofL k l') : bearerF l rs = bearerF l' rs := by
  by_cases h : rs = []
  · subst h; rfl
  · exact low_uniq (low_congr hof (bearerF_low h)) (bearerF_low h)
theorem ord_congr {o : List Int} (hof : ∀ k ∈ o, ofL k l = ofL k l') (h : OrdL l o) : OrdL l' o :=
  List.Pairwise.imp_of_mem (fun ha hb hab => by
    rw [befB_iff] at *
    rw [← hof _ ha, ← hof _ hb]; exact hab) h
theorem others_congr (hof : ∀ k ∈ rs, ofL k l = ofL k l') (hn : rs.Nodup) : othersF l rs = othersF l' rs := by
  have hb := bearer_congr hof
  have hm : ∀ k ∈ rs.erase (bearerF l rs), ofL k l = ofL k l' := fun k hk => hof k (List.mem_of_mem_erase hk)
  unfold othersF
  rw [← hb]
  refine ord_uniq (l := l') (ord_congr (fun k hk => hm k ((ordF_perm l _).mem_iff.1 hk)) (ordF_ord (hn.sublist List.erase_sublist))) (ordF_ord (hn.sublist List.erase_sublist)) ?_
  exact (ordF_perm l _).trans (ordF_perm l' _).symm
theorem dlt_congr (hof : ∀ k ∈ rs, ofL k l = ofL k l') (hn : rs.Nodup) (k : Int) : dltF l rs t k = dltF l' rs t k := by
  unfold dltF
  rw [others_congr hof hn, bearer_congr hof]
theorem bearer_perm (hp : rs.Perm rs') : bearerF l rs = bearerF l rs' := by
  by_cases h : rs = []
  · subst h; rw [List.nil_perm.1 hp]
  · have h' : rs' ≠ [] := fun e => h (by subst e; exact List.perm_nil.1 hp)
    exact low_uniq (low_perm (bearerF_low h) hp) (bearerF_low h')
theorem others_permF (hp : rs.Perm rs') (hn : rs.Nodup) : othersF l rs = othersF l rs' := by
  unfold othersF
  rw [← bearer_perm hp]
  refine ord_uniq (l := l) (ordF_ord (hn.sublist List.erase_sublist)) (ordF_ord ((hp.nodup_iff.1 hn).sublist List.erase_sublist)) ?_
  exact ((ordF_perm l _).trans (hp.erase _)).trans (ordF_perm l _).symm
theorem rides_perm (hp : rs.Perm rs') : ridesL rs = ridesL rs' := by
  rw [Bool.eq_iff_iff, ridesL_iff, ridesL_iff, hp.length_eq, hp.nodup_iff]
  exact ⟨fun ⟨a, b, c, d⟩ => ⟨a, b, c, fun x hx => d x (hp.mem_iff.2 hx)⟩, fun ⟨a, b, c, d⟩ => ⟨a, b, c, fun x hx => d x (hp.mem_iff.1 hx)⟩⟩
theorem bear_perm (hp : rs.Perm rs') : bearF l rs t = bearF l rs' t := by
  unfold bearF
  have hf : fineB l rs t = fineB l rs' t := by unfold fineB; rw [rides_perm hp]
  rw [← hf]
  by_cases h : fineB l rs t = true
  · have hn := (ridesL_iff.1 (fineB_iff.1 h).2.1).2.2.1
    have ho : outF l rs t = outF l rs' t := by unfold outF; rw [others_permF hp hn, bearer_perm hp]
    rw [← ho, bearer_perm hp]
  · rw [if_neg h, if_neg h]
/-- A detour of 0 minutes. -/
theorem none_of (h : fineB l rs 0 = true) (k : Int) : ofL k (outF l rs 0) = ofL k l := by
  have R := raw_ok h
  rw [R.of_]
  by_cases hk : k ∈ rs
  · by_cases hb : k = bearerF l rs
    · subst hb
      by_cases ho : othersF l rs = []
      · unfold dltF; rw [if_pos ho]; omega
      · rw [R.bearer ho]; omega
    · obtain ⟨j, hj⟩ := List.getElem?_of_mem (R.mem_o hk hb)
      rw [R.other hj]
      simp
      omega
  · rw [R.out hk]; omega
/-- Two groups without a common member. -/
theorem groups (ha : fineB l rs t = true) (hva : (outF l rs t).all validB = true) (hd : fineB l os u = true) (hvd : (outF l os u).all validB = true) (hdis : ∀ k ∈ rs, k ∉ os) :
    fineB (outF l os u) rs t = true ∧ (outF (outF l os u) rs t).all validB = true ∧ outF (outF l rs t) os u = outF (outF l os u) rs t := by
  have Ra := raw_ok ha
  have Rd := raw_ok hd
  obtain ⟨a1, a2, a3, a4⟩ := fineB_iff.1 ha
  obtain ⟨d1, d2, d3, d4⟩ := fineB_iff.1 hd
  have nr := (ridesL_iff.1 a2).2.2.1
  have no := (ridesL_iff.1 d2).2.2.1
  have or_ : ∀ k ∈ rs, ofL k l = ofL k (outF l os u) := fun k hk => by rw [Rd.of_, Rd.out (hdis k hk)]; omega
  have oo : ∀ k ∈ os, ofL k l = ofL k (outF l rs t) := fun k hk => by rw [Ra.of_, Ra.out (fun h => hdis k h hk)]; omega
  have fu : fineB (outF l os u) rs t = true := fineB_iff.2 ⟨out_right hd hvd, a2, a3, a4⟩
  have fc : fineB (outF l rs t) os u = true := fineB_iff.2 ⟨out_right ha hva, d2, d3, d4⟩
  have Ru := raw_ok fu
  have Rc := raw_ok fc
  refine ⟨fu, (valid_iff fu).2 fun k hk => ?_, ?_⟩
  · rw [Ru.of_, ← dlt_congr or_ nr, ← or_ k hk, ← Ra.of_]
    exact (valid_iff ha).1 hva k hk
  · refine ext_of Rc.sort Ru.sort (fun k => ?_) (fun k => ?_)
    · rw [Rc.keys, Ru.keys, Ra.keys, Rd.keys, ← others_congr or_ nr, ← others_congr oo no]
      constructor
      · rintro ((h | h) | h) <;> simp [h]
      · rintro ((h | h) | h) <;> simp [h]
    · rw [Rc.of_, Ru.of_, Ra.of_, Rd.of_, ← dlt_congr or_ nr, ← dlt_congr oo no]; omega
theorem groups_er (ha : fineB l rs t = true) (hva : (outF l rs t).all validB = true) (hdis : ∀ k ∈ rs, k ∉ os) : (bearF (outF l rs t) os u).2.2 = (bearF l os u).2.2 := by
  have Ra := raw_ok ha
  obtain ⟨a1, a2, a3, a4⟩ := fineB_iff.1 ha
  have oo : ∀ k ∈ os, ofL k l = ofL k (outF l rs t) := fun k hk => by rw [Ra.of_, Ra.out (fun h => hdis k h hk)]; omega
  have hf : fineB (outF l rs t) os u = fineB l os u := by
    unfold fineB
    rw [out_right ha hva, a1]
  unfold bearF
  rw [hf]
  by_cases hd : fineB l os u = true
  · rw [if_pos hd, if_pos hd]
    have no := (ridesL_iff.1 (fineB_iff.1 hd).2.1).2.2.1
    have fc : fineB (outF l rs t) os u = true := hf.trans hd
    have hv : (outF (outF l rs t) os u).all validB = (outF l os u).all validB := by
      rw [Bool.eq_iff_iff, valid_iff fc, valid_iff hd]
      have e : ∀ k ∈ os, ofL k (outF (outF l rs t) os u) = ofL k (outF l os u) := fun k hk => by
        rw [(raw_ok fc).of_, (raw_ok hd).of_, ← oo k hk, dlt_congr oo no]
      exact ⟨fun h k hk => by rw [← e k hk]; exact h k hk, fun h k hk => by rw [e k hk]; exact h k hk⟩
    rw [hv]
    split <;> rfl
  · rw [if_neg hd, if_neg hd]
/-- FavourLag: one detour more. -/
theorem lag_step {M K d : Int} (hr : rightL l = true) (hg : ridesL rs = true) (hd0 : 0 ≤ d) (hd1 : d ≤ 1000) (hM : 0 ≤ M) (hlag : ∀ x ∈ rs, ∀ y ∈ rs, ofL x l - ofL y l ≤ 2 * M) (hK : ∀ k, -K ≤ ofL k l ∧ ofL k l ≤ K) (hK1 : K ≤ 1000000) :
    (bearF l rs d).2.2 = 0 ∧ (∀ x ∈ rs, ∀ y ∈ rs, ofL x (outF l rs d) - ofL y (outF l rs d) ≤ 2 * max M d) ∧ (∀ k, -(K + 1000) ≤ ofL k (outF l rs d) ∧ ofL k (outF l rs d) ≤ K + 1000) := by
  have hf : fineB l rs d = true := fineB_iff.2 ⟨hr, hg, hd0, by omega⟩
  have R := raw_ok hf
  have hbd : ∀ k, -1000 ≤ dltF l rs d k ∧ dltF l rs d k ≤ 1000 := fun k => by
    by_cases hk : k ∈ rs
    · by_cases hb : k = bearerF l rs
      · subst hb
        by_cases ho : othersF l rs = []
        · unfold dltF; rw [if_pos ho]; omega
        · rw [R.bearer ho]; omega
      · have hmo := R.mem_o hk hb
        obtain ⟨j, hj⟩ := List.getElem?_of_mem hmo
        rw [R.other hj]
        have hl : 1 ≤ ((othersF l rs).length : Int) := by have := List.length_pos_of_mem hmo; omega
        have := parts_bd hd0 hl (j : Int) (by omega)
        omega
    · rw [R.out hk]; omega
  have hK2 : ∀ k, -(K + 1000) ≤ ofL k (outF l rs d) ∧ ofL k (outF l rs d) ≤ K + 1000 := fun k => by
    rw [R.of_]; have := hK k; have := hbd k; omega
  refine ⟨?_, fun x hx y hy => ?_, hK2⟩
  · unfold bearF
    rw [if_pos hf, if_pos ((valid_iff hf).2 fun k _ => by have := hK2 k; omega)]
  · have hMx : M ≤ max M d := by omega
    have hdx : d ≤ max M d := by omega
    have hxy := hlag x hx y hy
    by_cases ho : othersF l rs = []
    · have e : ∀ k, ofL k (outF l rs d) = ofL k l := fun k => by rw [R.of_]; unfold dltF; rw [if_pos ho]; omega
      rw [e, e]; omega
    · by_cases hxb : x = bearerF l rs
      · by_cases hyb : y = bearerF l rs
        · rw [hxb, hyb]; omega
        · obtain ⟨j, hj⟩ := List.getElem?_of_mem (R.mem_o hy hyb)
          have hl : 1 ≤ ((othersF l rs).length : Int) := by have := List.length_pos_iff.2 ho; omega
          have hp := parts_bd hd0 hl (j : Int) (by omega)
          have hlo := bear_least hf hy
          rw [hxb, R.of_, R.of_, R.bearer ho, R.other hj]; omega
      · obtain ⟨i, hi⟩ := List.getElem?_of_mem (R.mem_o hx hxb)
        have hl : 1 ≤ ((othersF l rs).length : Int) := by have := List.length_pos_iff.2 ho; omega
        have hpi := parts_bd hd0 hl (i : Int) (by omega)
        by_cases hyb : y = bearerF l rs
        · rw [hyb] at hxy ⊢
          rw [R.of_, R.of_, R.bearer ho, R.other hi]; omega
        · have hg1 := part_gap hf hx hxb hy hyb
          rcases Int.lt_or_le (ofL x l) (ofL y l) with h1 | h1
          · by_cases hg0 : 0 < (ofL x l - ofL x (outF l rs d)) - (ofL y l - ofL y (outF l rs d))
            · have := hg1.2.2 hg0; omega
            · omega
          · by_cases hd : d = 0
            · subst hd
              rw [none_of hf, none_of hf]; omega
            · have hg2 := part_gap hf hy hyb hx hxb
              by_cases he : ofL x l = ofL y l
              · omega
              · have : ¬ 0 < (ofL y l - ofL y (outF l rs d)) - (ofL x l - ofL x (outF l rs d)) := fun h => by have := hg2.2.2 h; omega
                omega
end
end Go.Proofs.Ytjbdjlgddjmkbaa
