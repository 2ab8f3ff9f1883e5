/- The plain law: what has a unit has a value, or is divided by 0, or is too great. -/
import Derived.Test.YtcgocdhhneckhaaGreatFnammxbm
namespace Go.Proofs.YtcgocdhhneckhaaGreat
open Go.RowKit
structure Snd (x : FrR) : Prop where
  err : x.e = 0 ∨ x.e = 6 ∨ x.e = 15
  yes : x.e = 0 → FracOK x.p x.q
theorem FrR.OK.snd {x : FrR} (h : x.OK) : Snd x := ⟨h.err, h.yes⟩
theorem snd_whole {n : Int} (h0 : -9223372036854775808 ≤ n) (h1 : n ≤ 9223372036854775807) : Snd (wholeF n) := ⟨.inl rfl, fun _ => ok_whole h0 h1⟩
theorem snd_tru (b : Bool) : Snd (truF b) := by
  cases b
  · exact snd_whole (by omega) (by omega)
  · exact snd_whole (by omega) (by omega)
theorem Snd.bad {x : FrR} (h : Snd x) (h0 : x.e ≠ 0) : Snd (FrR.bad x.e) := ⟨h.err, fun h1 => absurd h1 h0⟩
theorem Snd.app {op : Int} {a b : FrR} (ha : Snd a) (hb : Snd b) (ha0 : a.e = 0) (hb0 : b.e = 0) : Snd (appF op a b) := by
  have h1 := ha.yes ha0
  have h2 := hb.yes hb0
  unfold appF
  split
  · exact (addF_OK h1 h2).snd
  split
  · exact (subF_OK h1 h2).snd
  split
  · exact (mulF_OK h1 h2).snd
  split
  · exact (divF_OK h1 h2).snd
  split
  · exact snd_tru _
  split
  · exact snd_tru _
  split
  · exact hb
  · exact ha
theorem Snd.two {op : Int} {a b : FrR} (ha : Snd a) (hb : Snd b) : Snd (twoF op a b) := by
  unfold twoF
  split
  · rename_i h; exact ha.bad h
  split
  · rename_i h; exact hb.bad h
  · rename_i h1 h2
    exact ha.app hb (Classical.byContradiction h1) (Classical.byContradiction h2)
theorem Snd.not_ {a : FrR} (ha : Snd a) : Snd (notF a) := by
  unfold notF
  split
  · rename_i h; exact ha.bad h
  · exact snd_tru _
theorem Snd.and_ {a b : FrR} (ha : Snd a) (hb : Snd b) : Snd (andF a b) := by
  unfold andF
  split
  · rename_i h; exact ha.bad h
  split
  · exact snd_tru _
  split
  · rename_i h; exact hb.bad h
  · exact snd_tru _
theorem Snd.or_ {a b : FrR} (ha : Snd a) (hb : Snd b) : Snd (orF a b) := by
  unfold orF
  split
  · rename_i h; exact ha.bad h
  split
  · exact snd_tru _
  split
  · rename_i h; exact hb.bad h
  · exact snd_tru _
theorem Snd.ite_ {a b c : FrR} (ha : Snd a) (hb : Snd b) (hc : Snd c) : Snd (iteF a b c) := by
  unfold iteF
  split
  · rename_i h; exact ha.bad h
  split
  · exact hb
  · exact hc
theorem seqU_all {α : Type} {f : α → Int × Int} : ∀ {l : List α}, (seqU (l.map f)).2 = 0 → ∀ x, x ∈ l → (f x).2 = 0
  | [], _, x, hx => by cases hx
  | y :: l, h, x, hx => by
    rw [List.map_cons] at h
    by_cases hy : (f y).2 = 0
    · have h2 : (seqU (l.map f)).2 = 0 := by
        have : (seqU ((f y) :: l.map f)).2 = (seqU (l.map f)).2 := by
          generalize f y = z at hy
          obtain ⟨a, b⟩ := z
          have hy : b = 0 := hy
          simp [seqU, hy]
        rw [← this]; exact h
      rcases List.mem_cons.1 hx with rfl | hx
      · exact hy
      · exact seqU_all h2 x hx
    · exfalso
      have : (seqU ((f y) :: l.map f)).2 = (f y).2 := by
        generalize f y = z at hy
        obtain ⟨a, b⟩ := z
        have hy : ¬ b = 0 := hy
        simp [seqU, hy]
      rw [this] at h
      exact hy h
theorem evE_sound {lk : ByteArray → FrR} {T M : List FT} {L : List LT} {U : List Int} (hlk : ∀ s, nameU s L U ≠ -1 → Snd (lk s)) (hT : ∀ s, (triU s).isSome = true → Snd (factF s T)) (hM : ∀ s, (memU s).isSome = true → Snd (factF s M)) :
    ∀ k e, okE k e = true → (unU L U k e).2 = 0 → Snd (evE lk T M k e)
  | 0, e, hk, _ => by unfold okE at hk; cases hk
  | k + 1, ⟨o, a, u, s, A, c, l⟩, hk, hu => by
    have ih := fun x h1 h2 => evE_sound (T := T) (M := M) hlk hT hM k x h1 h2
    by_cases h0 : o = 0
    · subst h0
      unfold evE
      rw [if_pos rfl]
      exact snd_whole (okE_numb hk).1 (okE_numb hk).2
    by_cases h1 : o = 1
    · subst h1
      unfold evE
      rw [if_neg (by decide), if_pos rfl]
      refine hlk s fun hn => ?_
      unfold unU at hu
      rw [if_neg (by decide), if_neg (by decide), if_neg (by decide), if_pos rfl, if_pos hn] at hu
      simp at hu
    by_cases h2 : o = 2
    · subst h2
      unfold evE
      rw [if_neg (by decide), if_neg (by decide), if_pos rfl]
      refine hT s ?_
      unfold unU at hu
      rw [if_neg (by decide), if_pos rfl] at hu
      cases ht : (triU s).isSome with
      | true => rfl
      | false => unfold knU at hu; simp [ht] at hu
    by_cases h3 : o = 3
    · subst h3
      unfold evE
      rw [if_neg (by decide), if_neg (by decide), if_neg (by decide), if_pos rfl]
      refine hM s ?_
      unfold unU at hu
      rw [if_neg (by decide), if_neg (by decide), if_pos rfl] at hu
      cases ht : (memU s).isSome with
      | true => rfl
      | false => unfold knU at hu; simp [ht] at hu
    have hall := okE_all hk h0 h1 h2 h3
    have hlen := okE_is hk
    have hsq : (seqU (l.map (unU L U k))).2 = 0 := by
      rw [unU_op h0 h1 h2 h3] at hu
      exact Classical.byContradiction fun hn => by rw [if_pos hn] at hu; exact hn hu
    have hun := seqU_all hsq
    unfold evE
    rw [if_neg h0, if_neg h1, if_neg h2, if_neg h3]
    by_cases h12 : o = 12
    · subst h12
      obtain ⟨x, rfl⟩ := len_one (l := l) (by have h : opsN 12 = 1 := (by decide); omega)
      exact (ih x (hall x (by simp)) (hun x (by simp))).not_
    by_cases h15 : o = 15
    · subst h15
      obtain ⟨x, y, z, rfl⟩ := len_three (l := l) (by have h : opsN 15 = 3 := (by decide); omega)
      exact (ih x (hall x (by simp)) (hun x (by simp))).ite_ (ih y (hall y (by simp)) (hun y (by simp))) (ih z (hall z (by simp)) (hun z (by simp)))
    obtain ⟨x, y, rfl⟩ := len_two (l := l) (opsN_two hlen h0 h1 h2 h3 h12 h15)
    have hx := ih x (hall x (by simp)) (hun x (by simp))
    have hy := ih y (hall y (by simp)) (hun y (by simp))
    simp only [List.map_cons, List.map_nil, opF]
    split
    · exact hx.and_ hy
    split
    · exact hx.or_ hy
    · exact hx.two hy
theorem scN_at {L : List LT} {k : Nat} {x : LT} (hx : L[k]? = some x) : ∀ n, k < n → n ≤ L.length → (scN L n)[k]? = some (uo (unU (L.take k) (scN L k) 12 x.b))
  | 0, h, _ => absurd h (by omega)
  | n + 1, h, hn => by
    have hy : L[n]? = some L[n] := List.getElem?_eq_getElem (by omega)
    rw [scN_succ hy]
    by_cases hk : k = n
    · subst hk
      rw [hy] at hx
      injection hx with hx
      rw [List.getElem?_append_right (by rw [scN_len L k (by omega)]; exact Nat.le_refl _), scN_len L k (by omega), Nat.sub_self, hx]
      rfl
    · rw [List.getElem?_append_left (by rw [scN_len L n (by omega)]; omega)]
      exact scN_at hx n (by omega) (by omega)
theorem evN_sound {T M : List FT} {L : List LT} (hok : ∀ x, x ∈ L → okE 12 x.b = true) (hT : ∀ s, (triU s).isSome = true → Snd (factF s T)) (hM : ∀ s, (memU s).isSome = true → Snd (factF s M)) :
    ∀ n, n ≤ L.length → ∀ k e, okE k e = true → (unU (L.take n) (scN L n) k e).2 = 0 → Snd (evN T M L n k e) := by
  intro n
  induction n using Nat.strongRecOn with
  | ind n ih =>
    intro hn k e hk hu
    refine evE_sound (L := L.take n) (U := scN L n) (fun s hs => ?_) hT hM k e hk hu
    rcases idxP_ge (fun x : LT => sameB x.nm s) (L.take n) 0 with ⟨_, h2⟩ | ⟨j, x, _, h2, h3, h4⟩
    · exact absurd (nameU_none h2) hs
    · have hjn : j < n := by
        have := (List.getElem?_eq_some_iff.1 h2).1
        rw [List.length_take] at this
        omega
      have hxj : L[j]? = some x := by rw [List.getElem?_take, if_pos hjn] at h2; exact h2
      have hsc := scN_at hxj n hjn hn
      rw [nameU_at h2 hsc h3 h4] at hs
      show Snd (lkF s (L.take n) (lvN T M L n))
      rw [lk_let T M hn h2 h3 h4]
      refine ih j hjn (by omega) 12 x.b (hok x (List.mem_of_getElem? hxj)) ?_
      exact Classical.byContradiction fun hc => hs (by unfold uo; rw [if_neg hc])
theorem factF_snd {s : ByteArray} {l : List FT} {x : FT} (hx : x ∈ l) (hs : sameB x.nm s = true) (hv : ∀ y, y ∈ l → -9223372036854775808 ≤ y.v ∧ y.v ≤ 9223372036854775807) : Snd (factF s l) := by
  rcases idxP_ge (fun x : FT => sameB x.nm s) l 0 with ⟨_, h2⟩ | ⟨j, y, _, h2, h3, h4⟩
  · have := h2 x hx
    (try simp only at this)
    rw [hs] at this
    cases this
  · rw [factF_at h2 h3 h4]
    have := hv y (List.mem_of_getElem? h2)
    exact snd_whole this.1 this.2
end Go.Proofs.YtcgocdhhneckhaaGreat
/- The plain law of FareTotal: what right bylaws say about a trip has an answer, or one of three errors. -/
namespace Go.Proofs.YtcgocdhhneckhaaGreat
open Go.RowKit
def near (n : Int) : Prop := -1099511627776 ≤ n ∧ n ≤ 1099511627776
theorem trip_factsB {d r de no s c b rd : Int} (h1 : near d) (h2 : near r) (h3 : near de) (h4 : near no) (h5 : near s) (h6 : near c) (h7 : near b) (h8 : near rd) : factsB (tripL d r de no s c b rd) = true := by
  have n1 : nameB (⟨#[100, 105, 114, 101, 99, 116]⟩ : ByteArray) = true := by kernel_rfl
  have n2 : nameB (⟨#[114, 105, 100, 101]⟩ : ByteArray) = true := by kernel_rfl
  have n3 : nameB (⟨#[100, 101, 108, 97, 121]⟩ : ByteArray) = true := by kernel_rfl
  have n4 : nameB (⟨#[110, 111, 116, 105, 99, 101]⟩ : ByteArray) = true := by kernel_rfl
  have n5 : nameB (⟨#[115, 101, 97, 116, 115]⟩ : ByteArray) = true := by kernel_rfl
  have n6 : nameB (⟨#[99, 104, 97, 105, 114, 115]⟩ : ByteArray) = true := by kernel_rfl
  have n7 : nameB (⟨#[98, 97, 103, 115]⟩ : ByteArray) = true := by kernel_rfl
  have n8 : nameB (⟨#[114, 105, 100, 101, 114, 115]⟩ : ByteArray) = true := by kernel_rfl
  unfold near at *
  simp only [factsB, tripL, List.all_cons, List.all_nil, n1, n2, n3, n4, n5, n6, n7, n8, Bool.true_and, Bool.and_true, Bool.and_eq_true, decide_eq_true_eq]
  refine ⟨decide_eq_true (by show ((8 : Nat) : Int) ≤ 40; decide), ?_⟩
  omega
theorem rider_factsB {f b t n : Int} (h1 : near f) (h2 : near b) (h3 : near t) (h4 : near n) : factsB (riderL f b t n) = true := by
  have n1 : nameB (⟨#[102, 97, 118, 111, 117, 114]⟩ : ByteArray) = true := by kernel_rfl
  have n2 : nameB (⟨#[98, 97, 108, 97, 110, 99, 101]⟩ : ByteArray) = true := by kernel_rfl
  have n3 : nameB (⟨#[116, 114, 105, 112, 115]⟩ : ByteArray) = true := by kernel_rfl
  have n4 : nameB (⟨#[110, 111, 115, 104, 111, 119, 115]⟩ : ByteArray) = true := by kernel_rfl
  unfold near at *
  simp only [factsB, riderL, List.all_cons, List.all_nil, n1, n2, n3, n4, Bool.true_and, Bool.and_true, Bool.and_eq_true, decide_eq_true_eq]
  refine ⟨decide_eq_true (by show ((4 : Nat) : Int) ≤ 40; decide), ?_⟩
  omega
theorem same_lit {a s : ByteArray} {l : List UInt8} (ha : a.toList = l) (h : (s.toList == l) = true) : sameB a s = true := by
  unfold sameB
  rw [beq_iff_eq] at h
  rw [ha, h]
  simp
theorem trip_known (d r de no s c b rd : Int) (x : ByteArray) (h : (triU x).isSome = true) : ∃ y, y ∈ tripL d r de no s c b rd ∧ sameB y.nm x = true := by
  unfold triU at h
  split at h
  · rename_i hx; exact ⟨⟨(⟨#[100, 105, 114, 101, 99, 116]⟩ : ByteArray), d⟩, by simp [tripL], same_lit (by kernel_rfl) hx⟩
  split at h
  · rename_i hx; exact ⟨⟨(⟨#[114, 105, 100, 101]⟩ : ByteArray), r⟩, by simp [tripL], same_lit (by kernel_rfl) hx⟩
  split at h
  · rename_i hx; exact ⟨⟨(⟨#[100, 101, 108, 97, 121]⟩ : ByteArray), de⟩, by simp [tripL], same_lit (by kernel_rfl) hx⟩
  split at h
  · rename_i hx; exact ⟨⟨(⟨#[110, 111, 116, 105, 99, 101]⟩ : ByteArray), no⟩, by simp [tripL], same_lit (by kernel_rfl) hx⟩
  split at h
  · rename_i hx; exact ⟨⟨(⟨#[115, 101, 97, 116, 115]⟩ : ByteArray), s⟩, by simp [tripL], same_lit (by kernel_rfl) hx⟩
  split at h
  · rename_i hx; exact ⟨⟨(⟨#[99, 104, 97, 105, 114, 115]⟩ : ByteArray), c⟩, by simp [tripL], same_lit (by kernel_rfl) hx⟩
  split at h
  · rename_i hx; exact ⟨⟨(⟨#[98, 97, 103, 115]⟩ : ByteArray), b⟩, by simp [tripL], same_lit (by kernel_rfl) hx⟩
  split at h
  · rename_i hx; exact ⟨⟨(⟨#[114, 105, 100, 101, 114, 115]⟩ : ByteArray), rd⟩, by simp [tripL], same_lit (by kernel_rfl) hx⟩
  · simp at h
theorem rider_known (f b t n : Int) (x : ByteArray) (h : (memU x).isSome = true) : ∃ y, y ∈ riderL f b t n ∧ sameB y.nm x = true := by
  unfold memU at h
  split at h
  · rename_i hx; exact ⟨⟨(⟨#[102, 97, 118, 111, 117, 114]⟩ : ByteArray), f⟩, by simp [riderL], same_lit (by kernel_rfl) hx⟩
  split at h
  · rename_i hx; exact ⟨⟨(⟨#[98, 97, 108, 97, 110, 99, 101]⟩ : ByteArray), b⟩, by simp [riderL], same_lit (by kernel_rfl) hx⟩
  split at h
  · rename_i hx; exact ⟨⟨(⟨#[116, 114, 105, 112, 115]⟩ : ByteArray), t⟩, by simp [riderL], same_lit (by kernel_rfl) hx⟩
  split at h
  · rename_i hx; exact ⟨⟨(⟨#[110, 111, 115, 104, 111, 119, 115]⟩ : ByteArray), n⟩, by simp [riderL], same_lit (by kernel_rfl) hx⟩
  · simp at h
/-- What Check accepts. -/
theorem firstE_all {l : List Int} (h : firstE l = 0) : ∀ e, e ∈ l → e = 0 := by
  induction l with
  | nil => intro e he; cases he
  | cons a r ih =>
    unfold firstE at h
    split at h
    · rename_i ha; exact absurd h ha
    · rename_i ha
      intro e he
      rcases List.mem_cons.1 he with rfl | he
      · exact Classical.byContradiction ha
      · exact ih h e he
theorem chk_rule {b : Byl} (h : chkU b = 0) : bylB b = true ∧ (∀ k, k < b.lets.l.length → letE b.lets.l k = 0) ∧ ∀ x, x ∈ [b.ad, b.fa, b.la, b.no] → (ofU b.lets.l x).2 = 0 := by
  unfold chkU at h
  split at h
  · rename_i hb
    have hall := firstE_all h
    refine ⟨hb, fun k hk => hall _ (List.mem_append_left _ (List.mem_map_of_mem (f := letE b.lets.l) (List.mem_range.2 hk))), fun x hx => ?_⟩
    obtain ⟨i, hi⟩ := List.getElem?_of_mem hx
    have hi4 : i < 4 := by
      have := (List.getElem?_eq_some_iff.1 hi).1
      simpa using this
    have h4 := hall _ (List.mem_append_right _ (List.mem_map_of_mem (f := fourE b.lets.l [b.ad, b.fa, b.la, b.no]) (List.mem_range.2 hi4)))
    rw [fourE_at hi] at h4
    exact Classical.byContradiction fun hc => by rw [if_pos hc] at h4; exact hc h4
  · cases h
theorem byl_rexp {b : Byl} (h : bylB b = true) : (∀ x, x ∈ b.lets.l → rexp x.b = true) ∧ (b.lets.l.length : Int) ≤ 20 ∧ ∀ x, x ∈ [b.ad, b.fa, b.la, b.no] → rexp x = true := by
  unfold bylB at h
  simp only [Bool.and_eq_true, List.all_eq_true, decide_eq_true_eq, and_assoc] at h
  obtain ⟨h1, _, _, _, _, _, h2, h3⟩ := h
  exact ⟨h1, h2, h3⟩
theorem eval_snd {b : Byl} {T M : List FT} (h : chkU b = 0) (hT : factsB T = true) (hM : factsB M = true) (kT : ∀ s, (triU s).isSome = true → ∃ y, y ∈ T ∧ sameB y.nm s = true) (kM : ∀ s, (memU s).isSome = true → ∃ y, y ∈ M ∧ sameB y.nm s = true)
    {x : PT} (hx : x ∈ [b.ad, b.fa, b.la, b.no]) : Snd (evalF b.lets.l x T M) := by
  obtain ⟨hb, _, hu⟩ := chk_rule h
  obtain ⟨hl, h20, h4⟩ := byl_rexp hb
  have hla : b.lets.l.all (fun x => rexp x.b) = true := List.all_eq_true.2 hl
  rw [evalF_ok ⟨h4 x hx, h20, hla, hT, hM⟩]
  have h2 := hu x hx
  rw [ofU_ok ⟨h4 x hx, h20, hla⟩] at h2
  refine evN_sound (fun y hy => hl y hy) (fun s hs => ?_) (fun s hs => ?_) _ (Nat.le_refl _) 12 x (h4 x hx) (by rw [List.take_length]; exact h2)
  · obtain ⟨y, hy, hys⟩ := kT s hs
    exact factF_snd hy hys (facts_i64 hT)
  · obtain ⟨y, hy, hys⟩ := kM s hs
    exact factF_snd hy hys (facts_i64 hM)
theorem whF_snd {r : FrR} (h : Snd r) : ((whF r).2 = 0 ∨ (whF r).2 = 6 ∨ (whF r).2 = 15 ∨ (whF r).2 = 3) ∧ 0 ≤ (whF r).1 ∧ (whF r).1 ≤ 1000000000000000 ∧ ((whF r).2 ≠ 0 → (whF r).1 = 0) := by
  by_cases h0 : r.e = 0
  · by_cases h1 : r.p < 0
    · rw [whF_neg h0 h1]; simp
    by_cases h2 : 1000000000000001 * r.q ≤ r.p
    · rw [whF_big h0 (by omega) h2]; simp
    rw [whF_ok h0 (by omega) h2]
    have hq := (h.yes h0).pos
    have h3 : 0 ≤ r.p / r.q := Int.ediv_nonneg (by omega) (by omega)
    have h4 : r.p / r.q < 1000000000000001 := Int.ediv_lt_of_lt_mul hq (by omega)
    refine ⟨.inl rfl, h3, by simp only; omega, fun h => absurd rfl h⟩
  · rw [whF_err h0]
    have := h.err
    exact ⟨by simp only; omega, by simp, by simp, fun _ => rfl⟩
/-- Amounts. -/
theorem whC_facts {b : Byl} {x : PT} {T M : List FT} (h : chkU b = 0 → Snd (evalF b.lets.l x T M)) :
    (chkU b ≠ 0 → (whC b x T M).2 = chkU b) ∧ (chkU b = 0 → (whC b x T M).2 = 0 ∨ (whC b x T M).2 = 6 ∨ (whC b x T M).2 = 15 ∨ (whC b x T M).2 = 3) ∧ 0 ≤ (whC b x T M).1 ∧ (whC b x T M).1 ≤ 1000000000000000 ∧ ((whC b x T M).2 ≠ 0 → (whC b x T M).1 = 0) := by
  by_cases h0 : chkU b = 0
  · obtain ⟨h1, h2, h3, h4⟩ := whF_snd (h h0)
    by_cases hz : (whF (evalF b.lets.l x T M)).2 = 0
    · rw [whC_ok h0 hz]
      exact ⟨fun h => absurd h0 h, fun _ => .inl rfl, h2, h3, fun h => absurd rfl h⟩
    · rw [whC_bad2 h0 hz]
      exact ⟨fun h => absurd h0 h, fun _ => h1, by simp, by simp, fun _ => rfl⟩
  · rw [whC_bad h0]
    exact ⟨fun _ => rfl, fun h => absurd h h0, by simp, by simp, fun _ => rfl⟩
theorem admC_facts {b : Byl} {T M : List FT} (h : chkU b = 0 → Snd (evalF b.lets.l b.ad T M)) :
    (chkU b ≠ 0 → (admC b T M).2 = chkU b) ∧ (chkU b = 0 → (admC b T M).2 = 0 ∨ (admC b T M).2 = 6 ∨ (admC b T M).2 = 15) ∧ ((admC b T M).2 ≠ 0 → (admC b T M).1 = false) := by
  by_cases h0 : chkU b = 0
  · have h1 := (h h0).err
    by_cases hz : (evalF b.lets.l b.ad T M).e = 0
    · rw [admC_ok h0 hz]
      exact ⟨fun h => absurd h0 h, fun _ => .inl rfl, fun h => absurd rfl h⟩
    · rw [admC_bad2 h0 hz]
      exact ⟨fun h => absurd h0 h, fun _ => h1, fun _ => rfl⟩
  · rw [admC_bad h0]
    exact ⟨fun _ => rfl, fun h => absurd h h0, fun _ => rfl⟩
end Go.Proofs.YtcgocdhhneckhaaGreat
