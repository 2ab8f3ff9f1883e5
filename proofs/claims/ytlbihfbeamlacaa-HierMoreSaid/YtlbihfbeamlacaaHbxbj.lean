/- Walk: the reference's add. -/
import Derived.Test.YtlbihfbeamlacaaHbxbi
import Derived.Test.YtlbihfbeamlacaaHbxak
set_option linter.unusedSimpArgs false
set_option linter.unusedVariables false
set_option maxRecDepth 100000
set_option maxHeartbeats 6400000
namespace Go.Proofs.Ytlbihfbeamlacaa
open Go.RowKit
section
variable {α : Type} {F : Nat→Prop} {k : Nat} {enc : α→List Value} {w : World}
theorem Rd.drop {b o c : Nat} {l : List α} (h : Rd F k enc w ⟨some ⟨b,o,none⟩,c,l⟩) (i : Nat) (hi : i≤l.length) : Rd F k enc w ⟨some ⟨b,o+i * k,none⟩,c - i,l.drop i⟩:=by
  obtain ⟨h1,h2,_,h4⟩:=h
  simp only at h1 h2 h4
  refine ⟨by simp only [List.length_drop]; omega,by simp only; omega,fun h=>by simp at h,fun j x hx=>?_⟩
  simp only [List.getElem?_drop] at hx
  obtain ⟨b',o',hA,hF,hc⟩:=h4 (i+j) x hx
  injection hA with hA
  injection hA with h5 h6
  subst h5 h6
  refine ⟨b,o+i * k,rfl,hF, ?_⟩
  rw [Nat.add_mul] at hc
  rw [Nat.add_assoc]
  exact hc
theorem Rd.take {A : Option Addr} {c : Nat} {l : List α} (h : Rd F k enc w ⟨A,c,l⟩) (i : Nat) : Rd F k enc w ⟨A,c,l.take i⟩:=by
  obtain ⟨h1,h2,h3,h4⟩:=h
  simp only at h1 h2 h3 h4
  refine ⟨by simp only [List.length_take]; omega,h2,h3,fun j x hx=>?_⟩
  have hx : (l.take i)[j]? = some x:=hx
  rw [List.getElem?_take] at hx
  split at hx
  · exact h4 j x hx
  · simp at hx
end
theorem rd_drop {F : Nat→Prop} {w : World} {g c k : Nat} {l : List ED} {a3 : Option Addr} (h : Rd F 4 ED.enc w ⟨some ⟨g,0,none⟩,c,l⟩) (hk : k≤l.length) (ha : a3=(if c=k then some (⟨g,0,none⟩ : Addr) else some (⟨g,k * 4,none⟩ : Addr))) : Rd F 4 ED.enc w ⟨a3,c - k,l.drop k⟩:=by
  have h1:=h.1
  have h2:=h.2.1
  simp only at h1 h2
  by_cases hc : c=k
  · have h3 : l.drop k=[]:=List.drop_eq_nil_of_le (by omega)
    rw [h3]
    exact ⟨by simp,by simp only; omega,fun _=>by simp only; omega,fun i x hx=>by simp at hx⟩
  · rw [if_neg hc] at ha
    subst ha
    have:=h.drop k hk
    rw [Nat.zero_add] at this
    exact this
theorem own_edge {base : Nat} {w : World} {A : Option Addr} {c k : Nat} {l : List ED} {x : ED} (h : Own base 44 4 ED.enc w ⟨A,c,l⟩) (hx : l[k]? = some x) : ∃ g,A=some ⟨g,0,none⟩∧base≤g∧g<w.heap.size∧w.cell? ⟨g,k * 4,none⟩=some (.int .i64 x.f)∧w.cell? ⟨g,k * 4+1,none⟩=some (.int .i64 x.t)∧w.cell? ⟨g,k * 4+2,none⟩=some (.int .i64 x.n)∧w.cell? ⟨g,k * 4+3,none⟩=some (.int .i64 x.v):=by
  rcases h.form with ⟨_,_,h0⟩ | ⟨g,h0,h1,h2,_⟩
  · simp only at h0; rw [h0] at hx; simp at hx
  · simp only at h0
    subst h0
    obtain ⟨b,o,hA,_,hc⟩:=(h.rd ED.k).2.2.2 k x hx
    injection hA with hA
    injection hA with h3 h4
    subst h3 h4
    rw [Nat.zero_add] at hc
    obtain ⟨c0,c1,c2,c3⟩:=hc.c4
    exact ⟨g,rfl,h1,h2,c0,c1,c2,c3⟩
/-- An edge stored in the place of another one, field by field. -/
theorem own_put {base g c k : Nat} {w : World} {l : List ED} {x e : ED} (h : Own base 44 4 ED.enc w ⟨some ⟨g,0,none⟩,c,l⟩) (hx : l[k]? = some x) :
    Own base 44 4 ED.enc ((((w.setCell ⟨g,k * 4,none⟩ (.int .i64 e.f)).setCell ⟨g,k * 4+1,none⟩ (.int .i64 e.t)).setCell ⟨g,k * 4+2,none⟩ (.int .i64 e.n)).setCell ⟨g,k * 4+3,none⟩ (.int .i64 e.v)) ⟨some ⟨g,0,none⟩,c,l.set k e⟩:=by
  obtain ⟨hk,he⟩:=List.getElem?_eq_some_iff.1 hx
  have h1:=h.set ED.k rfl (i:=k) (j:=0) (x:=x) (y:=⟨e.f,x.t,x.n,x.v⟩) (u:=.int .i64 e.f) hx (by omega) rfl
  have h2:=h1.set ED.k rfl (i:=k) (j:=1) (x:=⟨e.f,x.t,x.n,x.v⟩) (y:=⟨e.f,e.t,x.n,x.v⟩) (u:=.int .i64 e.t) (by simp [hk]) (by omega) rfl
  have h3:=h2.set ED.k rfl (i:=k) (j:=2) (x:=⟨e.f,e.t,x.n,x.v⟩) (y:=⟨e.f,e.t,e.n,x.v⟩) (u:=.int .i64 e.n) (by simp [hk]) (by omega) rfl
  have h4:=h3.set ED.k rfl (i:=k) (j:=3) (x:=⟨e.f,e.t,e.n,x.v⟩) (y:=e) (u:=.int .i64 e.v) (by simp [hk]) (by omega) rfl
  simp only [List.set_set,Nat.add_zero] at h4
  exact h4
/-- The loop over the entries before. -/
theorem tw_go {e x : ED} {l : List ED} {k : Nat} (hx : l[k]? = some x) (h : l.takeWhile (fun x=>decide (ltE x e))=l.take k ++ (l.drop k).takeWhile (fun x=>decide (ltE x e))) (hl : ltE x e) :
    l.takeWhile (fun x=>decide (ltE x e))=l.take (k+1) ++ (l.drop (k+1)).takeWhile (fun x=>decide (ltE x e)):=by
  obtain ⟨hk,he⟩:=List.getElem?_eq_some_iff.1 hx
  rw [h,List.drop_eq_getElem_cons hk,he,List.takeWhile_cons,if_pos (decide_eq_true hl),List.take_add_one,hx,List.append_assoc]
  rfl
theorem tw_stop {e x : ED} {l : List ED} {k : Nat} (hx : l[k]? = some x) (h : l.takeWhile (fun x=>decide (ltE x e))=l.take k ++ (l.drop k).takeWhile (fun x=>decide (ltE x e))) (hl : ¬ ltE x e) :
    (l.takeWhile (fun x=>decide (ltE x e))).length=k:=by
  obtain ⟨hk,he⟩:=List.getElem?_eq_some_iff.1 hx
  rw [h,List.drop_eq_getElem_cons hk,he,List.takeWhile_cons,if_neg (by simpa using hl),List.append_nil,List.length_take]
  omega
theorem tw_end {e : ED} {l : List ED} (h : l.takeWhile (fun x=>decide (ltE x e))=l.take l.length ++ (l.drop l.length).takeWhile (fun x=>decide (ltE x e))) : (l.takeWhile (fun x=>decide (ltE x e))).length=l.length:=by
  rw [h,List.drop_length,List.takeWhile_nil,List.append_nil,List.length_take,Nat.min_self]
theorem r13_add (base : Nat) (s : Sl ED) (e : ED) (w : World) (hown : Own base 44 4 ED.enc w s) (hk : KeyD s.l) (hbase : base≤w.heap.size) (hlen : s.l.length≤1000) :
    Calls Try.prog 34 #[.slice s.A s.l.length s.c,e.v'] w fun r w'=>∃ (A : Option Addr) (c : Nat),r = .returned (.slice A (addE s.l e).length c)∧Own base 44 4 ED.enc w' ⟨A,c,addE s.l e⟩∧Below base w w':=by
  obtain ⟨A,c,l⟩:=s
  obtain ⟨ef,et,en,ev⟩:=e
  simp only at hk hlen ⊢
  have HO:=Lib.hid hown
  have HK:=Lib.hid hk
  have HBS:=Lib.hid hbase
  clear hown hk hbase
  obtain ⟨V,hV⟩ : ∃ V,addE l ⟨ef,et,en,ev⟩=V:=⟨_,rfl⟩
  rw [hV]
  have HV:=Lib.hid hV
  clear hV
  unfold ED.v'
  go_enter Try.func34,Try.ntmps34
  go_wp2_with fail
  have hal : Below w.heap.size w (w.alloc (.cells #[.int .i64 ef,.int .i64 et,.int .i64 en,.int .i64 ev] 44)):=(Below.refl _ _).alloc (Nat.le_refl _) _
  have HX1 : Hid (Blk (w.alloc (.cells #[.int .i64 ef,.int .i64 et,.int .i64 en,.int .i64 ev] 44)) w.heap.size 44 #[.int .i64 ef,.int .i64 et,.int .i64 en,.int .i64 ev]):=Lib.hid (Blk.new _ _ _)
  have HO1:=Lib.hid (HO.out.below hal)
  have HB1 : Hid (Below base w _):=Lib.hid (hal.mono HBS.out)
  have hbs1 : base≤(w.alloc (.cells #[.int .i64 ef,.int .i64 et,.int .i64 en,.int .i64 ev] 44)).heap.size:=Nat.le_trans HBS.out hal.size
  have HOG : Hid (∀ a,A=some ⟨a,0,none⟩→a≠w.heap.size):=Lib.hid (fun a ha=>Nat.ne_of_lt (HO.out.bound a ha))
  clear hal HO
  generalize w.alloc (.cells #[.int .i64 ef,.int .i64 et,.int .i64 en,.int .i64 ev] 44)=w1 at *
  obtain ⟨ge,hge⟩ : ∃ x,x=w.heap.size:=⟨_,rfl⟩
  rw [← hge] at HX1 HOG HBS ⊢
  clear hge
  have hcall:=r13_At ⟨A,c,l⟩ ef et w1 ((Own.rd ED.k HO1.out).mono fun b hb=>hb.2)
  simp only at hcall
  obtain ⟨y0,y1,y2,y3,yf,yz⟩:=HX1.out.b4
  rcases at_lk l ef et with ⟨h1,h2⟩ | ⟨k,x,h1,h2,h3,h4,h5⟩
  · rw [h1] at hcall
    have HVI : Hid (V=insE ⟨ef,et,en,ev⟩ l):=Lib.hid (by rw [← HV.out]; unfold addE; simp only; rw [h2])
    clear h1 h2
    go_wp2_with fail
    refine hcall.mono ?_
    clear hcall y0 y1 y2 y3 yf yz
    rintro r w2 ⟨rfl,hb⟩
    have HO2:=Lib.hid (HO1.out.below hb)
    have HX2:=Lib.hid (HX1.out.later hb)
    have HB2:=Lib.hid (HB1.out.trans (hb.mono hbs1))
    have hbs2 : base≤w2.heap.size:=Nat.le_trans hbs1 hb.size
    clear hb HO1 HX1 HB1 hbs1
    go_wp2_with fail
    go_loopw [6] (fun i wr=>∃ (k : Nat),k≤l.length∧i = .int .i64 k∧Hid (l.takeWhile (fun x=>decide (ltE x ⟨ef,et,en,ev⟩))=l.take k ++ (l.drop k).takeWhile (fun x=>decide (ltE x ⟨ef,et,en,ev⟩)))∧Hid (Below w2.heap.size w2 wr)) (fun i _=>l.length - (intOf i).toNat)
    case atStart=>exact ⟨0,by omega,rfl,Lib.hid rfl,Lib.hid (Below.refl _ _)⟩
    case round =>
      obtain ⟨k,hkl,rfl,HT,HU⟩:=hrel
      have HOu:=Lib.hid (HO2.out.below HU.out)
      have HXu:=Lib.hid (HX2.out.later HU.out)
      obtain ⟨y0,y1,y2,y3,yf,yz⟩:=HXu.out.b4
      by_cases hlt : k<l.length
      · have hlt' : (k : Int)<(l.length : Int):=by omega
        have hx:=List.getElem?_eq_getElem hlt
        obtain ⟨g,rfl,hg1,hg2,c0,c1,c2,c3⟩:=own_edge HOu.out hx
        have HXX:=Lib.hid hx
        generalize l[k]=x at *
        obtain ⟨xf,xt,xn,xv⟩:=x
        simp only at c0 c1 c2 c3
        clear c2 c3 hx
        have hdr : Below w2.heap.size w2 wr.drew:=Below.drew HU.out
        by_cases h1 : xf<ef
        · have HT2:=Lib.hid (tw_go HXX.out HT.out (.inl h1))
          have HU2:=Lib.hid hdr
          clear hdr
          go_wp2_with fail
          refine wp_region_T (fun W=>W.cell? ⟨g,k * 4,none⟩=some (.int .i64 xf)∧W.cell? ⟨g,k * 4+1,none⟩=some (.int .i64 xt)∧W.cell? ⟨ge,0,none⟩=some (.int .i64 ef)∧W.cell? ⟨ge,1,none⟩=some (.int .i64 et)) (fun _=>false) (by kernel_rfl) ⟨c0,c1,y0,y1⟩ (fun hHeld=>?_)
          refine wpAnyT_take2 (i:=0) (v:=?_) rfl rfl (by kernel_rfl) (by kernel_rfl) (by kernel_rfl) (by kernel_rfl) (fun _ _ _ h=>h) (Or.inl ⟨by rfl, ?_⟩) (by first | assumption | trivial) ?_
          rotate_left
          · (intro w hSw; (try dsimp only at hSw); go_simp) <;> (with_reducible rfl)
          simp only [List.setIfInBounds_toArray,List.set_cons_zero,List.set_cons_succ]
          refine wpAnyT_take2 (i:=1) (v:=?_) rfl rfl (by kernel_rfl) (by kernel_rfl) (by kernel_rfl) (by kernel_rfl) (fun _ _ _ h=>h) (Or.inl ⟨by rfl, ?_⟩) (by first | assumption | trivial) ?_
          rotate_left
          · (intro w hSw; (try dsimp only at hSw); go_simp) <;> (with_reducible rfl)
          simp only [List.setIfInBounds_toArray,List.set_cons_zero,List.set_cons_succ]
          refine wpAnyT_next (i:=2) (by kernel_rfl) rfl ?_
          go_wp2_with fail
          refine And.intro (by first | exact hHeld | exact fun _=>hHeld) ?_
          refine wpAnyT_take2 (i:=3) (v:=?_) rfl rfl (by kernel_rfl) (by kernel_rfl) (by kernel_rfl) (by kernel_rfl) (fun _ _ _ h=>h) (Or.inl ⟨by rfl, ?_⟩) (by first | assumption | trivial) ?_
          rotate_left
          · (intro w hSw; (try dsimp only at hSw); go_simp) <;> (with_reducible rfl)
          simp only [List.setIfInBounds_toArray,List.set_cons_zero,List.set_cons_succ]
          refine wpAnyT_take2 (i:=4) (v:=?_) rfl rfl (by kernel_rfl) (by kernel_rfl) (by kernel_rfl) (by kernel_rfl) (fun _ _ _ h=>h) (Or.inl ⟨by rfl, ?_⟩) (by first | assumption | trivial) ?_
          rotate_left
          · (intro w hSw; (try dsimp only at hSw); go_simp) <;> (with_reducible rfl)
          simp only [List.setIfInBounds_toArray,List.set_cons_zero,List.set_cons_succ]
          refine wpAnyT_take2 (i:=5) (v:=?_) rfl rfl (by kernel_rfl) (by kernel_rfl) (by kernel_rfl) (by kernel_rfl) (fun _ _ _ h=>h) (Or.inl ⟨by rfl, ?_⟩) (by first | assumption | trivial) ?_
          rotate_left
          · (intro w hSw; (try dsimp only at hSw); go_simp) <;> (with_reducible rfl)
          simp only [List.setIfInBounds_toArray,List.set_cons_zero,List.set_cons_succ]
          refine wpAnyT_take2 (i:=6) (v:=?_) rfl rfl (by kernel_rfl) (by kernel_rfl) (by kernel_rfl) (by kernel_rfl) (fun _ _ _ h=>h) (Or.inl ⟨by rfl, ?_⟩) (by first | assumption | trivial) ?_
          rotate_left
          · (intro w hSw; (try dsimp only at hSw); go_simp) <;> (with_reducible rfl)
          simp only [List.setIfInBounds_toArray,List.set_cons_zero,List.set_cons_succ]
          refine wpAnyT_take2 (i:=7) (v:=?_) rfl rfl (by kernel_rfl) (by kernel_rfl) (by kernel_rfl) (by kernel_rfl) (fun _ _ _ h=>h) (Or.inl ⟨by rfl, ?_⟩) (by first | assumption | trivial) ?_
          rotate_left
          · (intro w hSw; (try dsimp only at hSw); go_simp) <;> (with_reducible rfl)
          simp only [List.setIfInBounds_toArray,List.set_cons_zero,List.set_cons_succ]
          refine wpAnyT_take2 (i:=8) (v:=?_) rfl rfl (by kernel_rfl) (by kernel_rfl) (by kernel_rfl) (by kernel_rfl) (fun _ _ _ h=>h) (Or.inl ⟨by rfl, ?_⟩) (by first | assumption | trivial) ?_
          rotate_left
          · (intro w hSw; (try dsimp only at hSw); go_simp) <;> (with_reducible rfl)
          simp only [List.setIfInBounds_toArray,List.set_cons_zero,List.set_cons_succ]
          refine wpAnyT_take2 (i:=9) (v:=?_) rfl rfl (by kernel_rfl) (by kernel_rfl) (by kernel_rfl) (by kernel_rfl) (fun _ _ _ h=>h) (Or.inl ⟨by rfl, ?_⟩) (by first | assumption | trivial) ?_
          rotate_left
          · (intro w hSw; (try dsimp only at hSw); go_simp) <;> (with_reducible rfl)
          simp only [List.setIfInBounds_toArray,List.set_cons_zero,List.set_cons_succ]
          refine wpAnyT_take2 (i:=10) (v:=?_) rfl rfl (by kernel_rfl) (by kernel_rfl) (by kernel_rfl) (by kernel_rfl) (fun _ _ _ h=>h) (Or.inl ⟨by rfl, ?_⟩) (by first | assumption | trivial) ?_
          rotate_left
          · (intro w hSw; (try dsimp only at hSw); go_simp) <;> (with_reducible rfl)
          simp only [List.setIfInBounds_toArray,List.set_cons_zero,List.set_cons_succ]
          refine wpAnyT_take2 (i:=11) (v:=?_) rfl rfl (by kernel_rfl) (by kernel_rfl) (by kernel_rfl) (by kernel_rfl) (fun _ _ _ h=>h) (Or.inl ⟨by rfl, ?_⟩) (by first | assumption | trivial) ?_
          rotate_left
          · (intro w hSw; (try dsimp only at hSw); go_simp) <;> (with_reducible rfl)
          simp only [List.setIfInBounds_toArray,List.set_cons_zero,List.set_cons_succ]
          refine wpAnyT_take2 (i:=12) (v:=.bool true) rfl rfl (by kernel_rfl) (by kernel_rfl) (by kernel_rfl) (by kernel_rfl) (fun _ _ _ h=>h) (Or.inl ⟨by rfl, ?_⟩) (by first | assumption | trivial) ?_
          · (intro w hSw; (try dsimp only at hSw); go_simp) <;> (first | (with_reducible rfl) | assumption | (simp; done) | (simp [*]; done) | (simp; omega))
          simp only [List.setIfInBounds_toArray,List.set_cons_zero,List.set_cons_succ]
          refine wpAnyT_take2 (i:=13) (v:=?_) rfl rfl (by kernel_rfl) (by kernel_rfl) (by kernel_rfl) (by kernel_rfl) (fun _ _ _ h=>h) (Or.inl ⟨by rfl, ?_⟩) (by first | assumption | trivial) ?_
          rotate_left
          · (intro w hSw; (try dsimp only at hSw); go_simp) <;> (with_reducible rfl)
          simp only [List.setIfInBounds_toArray,List.set_cons_zero,List.set_cons_succ]
          refine wpAnyT_take2 (i:=14) (v:=undef) rfl rfl (by kernel_rfl) (by kernel_rfl) (by kernel_rfl) (by kernel_rfl) (fun _ _ _ h=>h) (Or.inr ⟨by rfl,rfl⟩) (by first | assumption | trivial) ?_
          simp only [List.setIfInBounds_toArray,List.set_cons_zero,List.set_cons_succ]
          refine wpAnyT_take2 (i:=15) (v:=undef) rfl rfl (by kernel_rfl) (by kernel_rfl) (by kernel_rfl) (by kernel_rfl) (fun _ _ _ h=>h) (Or.inr ⟨by rfl,rfl⟩) (by first | assumption | trivial) ?_
          simp only [List.setIfInBounds_toArray,List.set_cons_zero,List.set_cons_succ]
          refine wpAnyT_take2 (i:=16) (v:=undef) rfl rfl (by kernel_rfl) (by kernel_rfl) (by kernel_rfl) (by kernel_rfl) (fun _ _ _ h=>h) (Or.inr ⟨by rfl,rfl⟩) (by first | assumption | trivial) ?_
          simp only [List.setIfInBounds_toArray,List.set_cons_zero,List.set_cons_succ]
          refine wpAnyT_take2 (i:=17) (v:=undef) rfl rfl (by kernel_rfl) (by kernel_rfl) (by kernel_rfl) (by kernel_rfl) (fun _ _ _ h=>h) (Or.inr ⟨by rfl,rfl⟩) (by first | assumption | trivial) ?_
          simp only [List.setIfInBounds_toArray,List.set_cons_zero,List.set_cons_succ]
          refine wpAnyT_take2 (i:=18) (v:=undef) rfl rfl (by kernel_rfl) (by kernel_rfl) (by kernel_rfl) (by kernel_rfl) (fun _ _ _ h=>h) (Or.inr ⟨by rfl,rfl⟩) (by first | assumption | trivial) ?_
          simp only [List.setIfInBounds_toArray,List.set_cons_zero,List.set_cons_succ]
          refine wpAnyT_take2 (i:=19) (v:=undef) rfl rfl (by kernel_rfl) (by kernel_rfl) (by kernel_rfl) (by kernel_rfl) (fun _ _ _ h=>h) (Or.inr ⟨by rfl,rfl⟩) (by first | assumption | trivial) ?_
          simp only [List.setIfInBounds_toArray,List.set_cons_zero,List.set_cons_succ]
          refine wpAnyT_take2 (i:=20) (v:=undef) rfl rfl (by kernel_rfl) (by kernel_rfl) (by kernel_rfl) (by kernel_rfl) (fun _ _ _ h=>h) (Or.inr ⟨by rfl,rfl⟩) (by first | assumption | trivial) ?_
          simp only [List.setIfInBounds_toArray,List.set_cons_zero,List.set_cons_succ]
          refine wpAnyT_take2 (i:=21) (v:=undef) rfl rfl (by kernel_rfl) (by kernel_rfl) (by kernel_rfl) (by kernel_rfl) (fun _ _ _ h=>h) (Or.inr ⟨by rfl,rfl⟩) (by first | assumption | trivial) ?_
          simp only [List.setIfInBounds_toArray,List.set_cons_zero,List.set_cons_succ]
          refine wpAnyT_take2 (i:=22) (v:=undef) rfl rfl (by kernel_rfl) (by kernel_rfl) (by kernel_rfl) (by kernel_rfl) (fun _ _ _ h=>h) (Or.inr ⟨by rfl,rfl⟩) (by first | assumption | trivial) ?_
          simp only [List.setIfInBounds_toArray,List.set_cons_zero,List.set_cons_succ]
          refine wpAnyT_take2 (i:=23) (v:=undef) rfl rfl (by kernel_rfl) (by kernel_rfl) (by kernel_rfl) (by kernel_rfl) (fun _ _ _ h=>h) (Or.inr ⟨by rfl,rfl⟩) (by first | assumption | trivial) ?_
          simp only [List.setIfInBounds_toArray,List.set_cons_zero,List.set_cons_succ]
          refine wpAnyT_take2 (i:=24) (v:=undef) rfl rfl (by kernel_rfl) (by kernel_rfl) (by kernel_rfl) (by kernel_rfl) (fun _ _ _ h=>h) (Or.inr ⟨by rfl,rfl⟩) (by first | assumption | trivial) ?_
          simp only [List.setIfInBounds_toArray,List.set_cons_zero,List.set_cons_succ]
          refine wpAnyT_take2 (i:=25) (v:=undef) rfl rfl (by kernel_rfl) (by kernel_rfl) (by kernel_rfl) (by kernel_rfl) (fun _ _ _ h=>h) (Or.inr ⟨by rfl,rfl⟩) (by first | assumption | trivial) ?_
          simp only [List.setIfInBounds_toArray,List.set_cons_zero,List.set_cons_succ]
          refine wpAnyT_take2 (i:=26) (v:=undef) rfl rfl (by kernel_rfl) (by kernel_rfl) (by kernel_rfl) (by kernel_rfl) (fun _ _ _ h=>h) (Or.inr ⟨by rfl,rfl⟩) (by first | assumption | trivial) ?_
          simp only [List.setIfInBounds_toArray,List.set_cons_zero,List.set_cons_succ]
          refine wpAnyT_take2 (i:=27) (v:=undef) rfl rfl (by kernel_rfl) (by kernel_rfl) (by kernel_rfl) (by kernel_rfl) (fun _ _ _ h=>h) (Or.inr ⟨by rfl,rfl⟩) (by first | assumption | trivial) ?_
          simp only [List.setIfInBounds_toArray,List.set_cons_zero,List.set_cons_succ]
          refine wpAnyT_take2 (i:=28) (v:=undef) rfl rfl (by kernel_rfl) (by kernel_rfl) (by kernel_rfl) (by kernel_rfl) (fun _ _ _ h=>h) (Or.inr ⟨by rfl,rfl⟩) (by first | assumption | trivial) ?_
          simp only [List.setIfInBounds_toArray,List.set_cons_zero,List.set_cons_succ]
          refine wpAnyT_take2 (i:=29) (v:=undef) rfl rfl (by kernel_rfl) (by kernel_rfl) (by kernel_rfl) (by kernel_rfl) (fun _ _ _ h=>h) (Or.inr ⟨by rfl,rfl⟩) (by first | assumption | trivial) ?_
          simp only [List.setIfInBounds_toArray,List.set_cons_zero,List.set_cons_succ]
          refine wpAnyT_take2 (i:=30) (v:=undef) rfl rfl (by kernel_rfl) (by kernel_rfl) (by kernel_rfl) (by kernel_rfl) (fun _ _ _ h=>h) (Or.inr ⟨by rfl,rfl⟩) (by first | assumption | trivial) ?_
          simp only [List.setIfInBounds_toArray,List.set_cons_zero,List.set_cons_succ]
          refine wpAnyT_take2 (i:=31) (v:=undef) rfl rfl (by kernel_rfl) (by kernel_rfl) (by kernel_rfl) (by kernel_rfl) (fun _ _ _ h=>h) (Or.inr ⟨by rfl,rfl⟩) (by first | assumption | trivial) ?_
          simp only [List.setIfInBounds_toArray,List.set_cons_zero,List.set_cons_succ]
          refine wpAnyT_take2 (i:=32) (v:=?_) rfl rfl (by kernel_rfl) (by kernel_rfl) (by kernel_rfl) (by kernel_rfl) (fun _ _ _ h=>h) (Or.inl ⟨by rfl, ?_⟩) (by first | assumption | trivial) ?_
          rotate_left
          · (intro w hSw; (try dsimp only at hSw); go_simp) <;> (with_reducible rfl)
          simp only [List.setIfInBounds_toArray,List.set_cons_zero,List.set_cons_succ]
          refine wpAnyT_take2 (i:=33) (v:=?_) rfl rfl (by kernel_rfl) (by kernel_rfl) (by kernel_rfl) (by kernel_rfl) (fun _ _ _ h=>h) (Or.inl ⟨by rfl, ?_⟩) (by first | assumption | trivial) ?_
          rotate_left
          · (intro w hSw; (try dsimp only at hSw); go_simp) <;> (with_reducible rfl)
          simp only [List.setIfInBounds_toArray,List.set_cons_zero,List.set_cons_succ]
          refine wpAnyT_done (by kernel_rfl) ?_ _
          clear hHeld
          go_wp2_with fail
          go_roundw
          case rel=>exact ⟨k+1,by omega,by go_num,HT2,HU2⟩
          case measure=>simp [intOf]; omega
        · by_cases h2 : xf=ef
          · have h2':=h2.symm
            subst h2'
            by_cases h3 : xt<et
            · have HT2:=Lib.hid (tw_go HXX.out HT.out (.inr ⟨rfl,h3⟩))
              have HU2:=Lib.hid hdr
              clear hdr
              go_wp2_with fail
              refine wp_region_T (fun W=>W.cell? ⟨g,k * 4,none⟩=some (.int .i64 ef)∧W.cell? ⟨g,k * 4+1,none⟩=some (.int .i64 xt)∧W.cell? ⟨ge,0,none⟩=some (.int .i64 ef)∧W.cell? ⟨ge,1,none⟩=some (.int .i64 et)) (fun _=>false) (by kernel_rfl) ⟨c0,c1,y0,y1⟩ (fun hHeld=>?_)
              refine wpAnyT_take2 (i:=0) (v:=?_) rfl rfl (by kernel_rfl) (by kernel_rfl) (by kernel_rfl) (by kernel_rfl) (fun _ _ _ h=>h) (Or.inl ⟨by rfl, ?_⟩) (by first | assumption | trivial) ?_
              rotate_left
              · (intro w hSw; (try dsimp only at hSw); go_simp) <;> (with_reducible rfl)
              simp only [List.setIfInBounds_toArray,List.set_cons_zero,List.set_cons_succ]
              refine wpAnyT_take2 (i:=1) (v:=?_) rfl rfl (by kernel_rfl) (by kernel_rfl) (by kernel_rfl) (by kernel_rfl) (fun _ _ _ h=>h) (Or.inl ⟨by rfl, ?_⟩) (by first | assumption | trivial) ?_
              rotate_left
              · (intro w hSw; (try dsimp only at hSw); go_simp) <;> (with_reducible rfl)
              simp only [List.setIfInBounds_toArray,List.set_cons_zero,List.set_cons_succ]
              refine wpAnyT_next (i:=2) (by kernel_rfl) rfl ?_
              go_wp2_with fail
              refine And.intro (by first | exact hHeld | exact fun _=>hHeld) ?_
              refine wpAnyT_take2 (i:=3) (v:=?_) rfl rfl (by kernel_rfl) (by kernel_rfl) (by kernel_rfl) (by kernel_rfl) (fun _ _ _ h=>h) (Or.inl ⟨by rfl, ?_⟩) (by first | assumption | trivial) ?_
              rotate_left
              · (intro w hSw; (try dsimp only at hSw); go_simp) <;> (with_reducible rfl)
              simp only [List.setIfInBounds_toArray,List.set_cons_zero,List.set_cons_succ]
              refine wpAnyT_take2 (i:=4) (v:=?_) rfl rfl (by kernel_rfl) (by kernel_rfl) (by kernel_rfl) (by kernel_rfl) (fun _ _ _ h=>h) (Or.inl ⟨by rfl, ?_⟩) (by first | assumption | trivial) ?_
              rotate_left
              · (intro w hSw; (try dsimp only at hSw); go_simp) <;> (with_reducible rfl)
              simp only [List.setIfInBounds_toArray,List.set_cons_zero,List.set_cons_succ]
              refine wpAnyT_take2 (i:=5) (v:=?_) rfl rfl (by kernel_rfl) (by kernel_rfl) (by kernel_rfl) (by kernel_rfl) (fun _ _ _ h=>h) (Or.inl ⟨by rfl, ?_⟩) (by first | assumption | trivial) ?_
              rotate_left
              · (intro w hSw; (try dsimp only at hSw); go_simp) <;> (with_reducible rfl)
              simp only [List.setIfInBounds_toArray,List.set_cons_zero,List.set_cons_succ]
              refine wpAnyT_take2 (i:=6) (v:=?_) rfl rfl (by kernel_rfl) (by kernel_rfl) (by kernel_rfl) (by kernel_rfl) (fun _ _ _ h=>h) (Or.inl ⟨by rfl, ?_⟩) (by first | assumption | trivial) ?_
              rotate_left
              · (intro w hSw; (try dsimp only at hSw); go_simp) <;> (with_reducible rfl)
              simp only [List.setIfInBounds_toArray,List.set_cons_zero,List.set_cons_succ]
              refine wpAnyT_take2 (i:=7) (v:=?_) rfl rfl (by kernel_rfl) (by kernel_rfl) (by kernel_rfl) (by kernel_rfl) (fun _ _ _ h=>h) (Or.inl ⟨by rfl, ?_⟩) (by first | assumption | trivial) ?_
              rotate_left
              · (intro w hSw; (try dsimp only at hSw); go_simp) <;> (with_reducible rfl)
              simp only [List.setIfInBounds_toArray,List.set_cons_zero,List.set_cons_succ]
              refine wpAnyT_take2 (i:=8) (v:=?_) rfl rfl (by kernel_rfl) (by kernel_rfl) (by kernel_rfl) (by kernel_rfl) (fun _ _ _ h=>h) (Or.inl ⟨by rfl, ?_⟩) (by first | assumption | trivial) ?_
              rotate_left
              · (intro w hSw; (try dsimp only at hSw); go_simp) <;> (with_reducible rfl)
              simp only [List.setIfInBounds_toArray,List.set_cons_zero,List.set_cons_succ]
              refine wpAnyT_take2 (i:=9) (v:=?_) rfl rfl (by kernel_rfl) (by kernel_rfl) (by kernel_rfl) (by kernel_rfl) (fun _ _ _ h=>h) (Or.inl ⟨by rfl, ?_⟩) (by first | assumption | trivial) ?_
              rotate_left
              · (intro w hSw; (try dsimp only at hSw); go_simp) <;> (with_reducible rfl)
              simp only [List.setIfInBounds_toArray,List.set_cons_zero,List.set_cons_succ]
              refine wpAnyT_take2 (i:=10) (v:=?_) rfl rfl (by kernel_rfl) (by kernel_rfl) (by kernel_rfl) (by kernel_rfl) (fun _ _ _ h=>h) (Or.inl ⟨by rfl, ?_⟩) (by first | assumption | trivial) ?_
              rotate_left
              · (intro w hSw; (try dsimp only at hSw); go_simp) <;> (with_reducible rfl)
              simp only [List.setIfInBounds_toArray,List.set_cons_zero,List.set_cons_succ]
              refine wpAnyT_take2 (i:=11) (v:=?_) rfl rfl (by kernel_rfl) (by kernel_rfl) (by kernel_rfl) (by kernel_rfl) (fun _ _ _ h=>h) (Or.inl ⟨by rfl, ?_⟩) (by first | assumption | trivial) ?_
              rotate_left
              · (intro w hSw; (try dsimp only at hSw); go_simp) <;> (with_reducible rfl)
              simp only [List.setIfInBounds_toArray,List.set_cons_zero,List.set_cons_succ]
              refine wpAnyT_take2 (i:=12) (v:=.bool false) rfl rfl (by kernel_rfl) (by kernel_rfl) (by kernel_rfl) (by kernel_rfl) (fun _ _ _ h=>h) (Or.inl ⟨by rfl, ?_⟩) (by first | assumption | trivial) ?_
              · (intro w hSw; (try dsimp only at hSw); go_simp) <;> (first | (with_reducible rfl) | assumption | (simp; done) | (simp [*]; done) | (simp; omega))
              simp only [List.setIfInBounds_toArray,List.set_cons_zero,List.set_cons_succ]
              refine wpAnyT_take2 (i:=13) (v:=?_) rfl rfl (by kernel_rfl) (by kernel_rfl) (by kernel_rfl) (by kernel_rfl) (fun _ _ _ h=>h) (Or.inl ⟨by rfl, ?_⟩) (by first | assumption | trivial) ?_
              rotate_left
              · (intro w hSw; (try dsimp only at hSw); go_simp) <;> (with_reducible rfl)
              simp only [List.setIfInBounds_toArray,List.set_cons_zero,List.set_cons_succ]
              refine wpAnyT_take2 (i:=14) (v:=?_) rfl rfl (by kernel_rfl) (by kernel_rfl) (by kernel_rfl) (by kernel_rfl) (fun _ _ _ h=>h) (Or.inl ⟨by rfl, ?_⟩) (by first | assumption | trivial) ?_
              rotate_left
              · (intro w hSw; (try dsimp only at hSw); go_simp) <;> (with_reducible rfl)
              simp only [List.setIfInBounds_toArray,List.set_cons_zero,List.set_cons_succ]
              refine wpAnyT_take2 (i:=15) (v:=?_) rfl rfl (by kernel_rfl) (by kernel_rfl) (by kernel_rfl) (by kernel_rfl) (fun _ _ _ h=>h) (Or.inl ⟨by rfl, ?_⟩) (by first | assumption | trivial) ?_
              rotate_left
              · (intro w hSw; (try dsimp only at hSw); go_simp) <;> (with_reducible rfl)
              simp only [List.setIfInBounds_toArray,List.set_cons_zero,List.set_cons_succ]
              refine wpAnyT_take2 (i:=16) (v:=?_) rfl rfl (by kernel_rfl) (by kernel_rfl) (by kernel_rfl) (by kernel_rfl) (fun _ _ _ h=>h) (Or.inl ⟨by rfl, ?_⟩) (by first | assumption | trivial) ?_
              rotate_left
              · (intro w hSw; (try dsimp only at hSw); go_simp) <;> (with_reducible rfl)
              simp only [List.setIfInBounds_toArray,List.set_cons_zero,List.set_cons_succ]
              refine wpAnyT_take2 (i:=17) (v:=?_) rfl rfl (by kernel_rfl) (by kernel_rfl) (by kernel_rfl) (by kernel_rfl) (fun _ _ _ h=>h) (Or.inl ⟨by rfl, ?_⟩) (by first | assumption | trivial) ?_
              rotate_left
              · (intro w hSw; (try dsimp only at hSw); go_simp) <;> (with_reducible rfl)
              simp only [List.setIfInBounds_toArray,List.set_cons_zero,List.set_cons_succ]
              refine wpAnyT_take2 (i:=18) (v:=?_) rfl rfl (by kernel_rfl) (by kernel_rfl) (by kernel_rfl) (by kernel_rfl) (fun _ _ _ h=>h) (Or.inl ⟨by rfl, ?_⟩) (by first | assumption | trivial) ?_
              rotate_left
              · (intro w hSw; (try dsimp only at hSw); go_simp) <;> (with_reducible rfl)
              simp only [List.setIfInBounds_toArray,List.set_cons_zero,List.set_cons_succ]
              refine wpAnyT_take2 (i:=19) (v:=?_) rfl rfl (by kernel_rfl) (by kernel_rfl) (by kernel_rfl) (by kernel_rfl) (fun _ _ _ h=>h) (Or.inl ⟨by rfl, ?_⟩) (by first | assumption | trivial) ?_
              rotate_left
              · (intro w hSw; (try dsimp only at hSw); go_simp) <;> (with_reducible rfl)
              simp only [List.setIfInBounds_toArray,List.set_cons_zero,List.set_cons_succ]
              refine wpAnyT_take2 (i:=20) (v:=?_) rfl rfl (by kernel_rfl) (by kernel_rfl) (by kernel_rfl) (by kernel_rfl) (fun _ _ _ h=>h) (Or.inl ⟨by rfl, ?_⟩) (by first | assumption | trivial) ?_
              rotate_left
              · (intro w hSw; (try dsimp only at hSw); go_simp) <;> (with_reducible rfl)
              simp only [List.setIfInBounds_toArray,List.set_cons_zero,List.set_cons_succ]
              refine wpAnyT_take2 (i:=21) (v:=.bool true) rfl rfl (by kernel_rfl) (by kernel_rfl) (by kernel_rfl) (by kernel_rfl) (fun _ _ _ h=>h) (Or.inl ⟨by rfl, ?_⟩) (by first | assumption | trivial) ?_
              · (intro w hSw; (try dsimp only at hSw); go_simp) <;> (first | (with_reducible rfl) | assumption | (simp; done) | (simp [*]; done) | (simp; omega))
              simp only [List.setIfInBounds_toArray,List.set_cons_zero,List.set_cons_succ]
              refine wpAnyT_take2 (i:=22) (v:=?_) rfl rfl (by kernel_rfl) (by kernel_rfl) (by kernel_rfl) (by kernel_rfl) (fun _ _ _ h=>h) (Or.inl ⟨by rfl, ?_⟩) (by first | assumption | trivial) ?_
              rotate_left
              · (intro w hSw; (try dsimp only at hSw); go_simp) <;> (with_reducible rfl)
              simp only [List.setIfInBounds_toArray,List.set_cons_zero,List.set_cons_succ]
              refine wpAnyT_take2 (i:=23) (v:=?_) rfl rfl (by kernel_rfl) (by kernel_rfl) (by kernel_rfl) (by kernel_rfl) (fun _ _ _ h=>h) (Or.inl ⟨by rfl, ?_⟩) (by first | assumption | trivial) ?_
              rotate_left
              · (intro w hSw; (try dsimp only at hSw); go_simp) <;> (with_reducible rfl)
              simp only [List.setIfInBounds_toArray,List.set_cons_zero,List.set_cons_succ]
              refine wpAnyT_take2 (i:=24) (v:=?_) rfl rfl (by kernel_rfl) (by kernel_rfl) (by kernel_rfl) (by kernel_rfl) (fun _ _ _ h=>h) (Or.inl ⟨by rfl, ?_⟩) (by first | assumption | trivial) ?_
              rotate_left
              · (intro w hSw; (try dsimp only at hSw); go_simp) <;> (with_reducible rfl)
              simp only [List.setIfInBounds_toArray,List.set_cons_zero,List.set_cons_succ]
              refine wpAnyT_take2 (i:=25) (v:=?_) rfl rfl (by kernel_rfl) (by kernel_rfl) (by kernel_rfl) (by kernel_rfl) (fun _ _ _ h=>h) (Or.inl ⟨by rfl, ?_⟩) (by first | assumption | trivial) ?_
              rotate_left
              · (intro w hSw; (try dsimp only at hSw); go_simp) <;> (with_reducible rfl)
              simp only [List.setIfInBounds_toArray,List.set_cons_zero,List.set_cons_succ]
              refine wpAnyT_take2 (i:=26) (v:=?_) rfl rfl (by kernel_rfl) (by kernel_rfl) (by kernel_rfl) (by kernel_rfl) (fun _ _ _ h=>h) (Or.inl ⟨by rfl, ?_⟩) (by first | assumption | trivial) ?_
              rotate_left
              · (intro w hSw; (try dsimp only at hSw); go_simp) <;> (with_reducible rfl)
              simp only [List.setIfInBounds_toArray,List.set_cons_zero,List.set_cons_succ]
              refine wpAnyT_take2 (i:=27) (v:=?_) rfl rfl (by kernel_rfl) (by kernel_rfl) (by kernel_rfl) (by kernel_rfl) (fun _ _ _ h=>h) (Or.inl ⟨by rfl, ?_⟩) (by first | assumption | trivial) ?_
              rotate_left
              · (intro w hSw; (try dsimp only at hSw); go_simp) <;> (with_reducible rfl)
              simp only [List.setIfInBounds_toArray,List.set_cons_zero,List.set_cons_succ]
              refine wpAnyT_take2 (i:=28) (v:=?_) rfl rfl (by kernel_rfl) (by kernel_rfl) (by kernel_rfl) (by kernel_rfl) (fun _ _ _ h=>h) (Or.inl ⟨by rfl, ?_⟩) (by first | assumption | trivial) ?_
              rotate_left
              · (intro w hSw; (try dsimp only at hSw); go_simp) <;> (with_reducible rfl)
              simp only [List.setIfInBounds_toArray,List.set_cons_zero,List.set_cons_succ]
              refine wpAnyT_take2 (i:=29) (v:=?_) rfl rfl (by kernel_rfl) (by kernel_rfl) (by kernel_rfl) (by kernel_rfl) (fun _ _ _ h=>h) (Or.inl ⟨by rfl, ?_⟩) (by first | assumption | trivial) ?_
              rotate_left
              · (intro w hSw; (try dsimp only at hSw); go_simp) <;> (with_reducible rfl)
              simp only [List.setIfInBounds_toArray,List.set_cons_zero,List.set_cons_succ]
              refine wpAnyT_take2 (i:=30) (v:=.bool true) rfl rfl (by kernel_rfl) (by kernel_rfl) (by kernel_rfl) (by kernel_rfl) (fun _ _ _ h=>h) (Or.inl ⟨by rfl, ?_⟩) (by first | assumption | trivial) ?_
              · (intro w hSw; (try dsimp only at hSw); go_simp) <;> (first | (with_reducible rfl) | assumption | (simp; done) | (simp [*]; done) | (simp; omega))
              simp only [List.setIfInBounds_toArray,List.set_cons_zero,List.set_cons_succ]
              refine wpAnyT_take2 (i:=31) (v:=?_) rfl rfl (by kernel_rfl) (by kernel_rfl) (by kernel_rfl) (by kernel_rfl) (fun _ _ _ h=>h) (Or.inl ⟨by rfl, ?_⟩) (by first | assumption | trivial) ?_
              rotate_left
              · (intro w hSw; (try dsimp only at hSw); go_simp) <;> (with_reducible rfl)
              simp only [List.setIfInBounds_toArray,List.set_cons_zero,List.set_cons_succ]
              refine wpAnyT_take2 (i:=32) (v:=?_) rfl rfl (by kernel_rfl) (by kernel_rfl) (by kernel_rfl) (by kernel_rfl) (fun _ _ _ h=>h) (Or.inl ⟨by rfl, ?_⟩) (by first | assumption | trivial) ?_
              rotate_left
              · (intro w hSw; (try dsimp only at hSw); go_simp) <;> (with_reducible rfl)
              simp only [List.setIfInBounds_toArray,List.set_cons_zero,List.set_cons_succ]
              refine wpAnyT_take2 (i:=33) (v:=?_) rfl rfl (by kernel_rfl) (by kernel_rfl) (by kernel_rfl) (by kernel_rfl) (fun _ _ _ h=>h) (Or.inl ⟨by rfl, ?_⟩) (by first | assumption | trivial) ?_
              rotate_left
              · (intro w hSw; (try dsimp only at hSw); go_simp) <;> (with_reducible rfl)
              simp only [List.setIfInBounds_toArray,List.set_cons_zero,List.set_cons_succ]
              refine wpAnyT_done (by kernel_rfl) ?_ _
              clear hHeld
              go_wp2_with fail
              go_roundw
              case rel=>exact ⟨k+1,by omega,by go_num,HT2,HU2⟩
              case measure=>simp [intOf]; omega
            · have HT2:=Lib.hid (tw_stop HXX.out HT.out (by unfold ltE; simp only; omega))
              have HU2:=Lib.hid hdr
              clear hdr
              go_wp2_with fail
              refine wp_region_T (fun W=>W.cell? ⟨g,k * 4,none⟩=some (.int .i64 ef)∧W.cell? ⟨g,k * 4+1,none⟩=some (.int .i64 xt)∧W.cell? ⟨ge,0,none⟩=some (.int .i64 ef)∧W.cell? ⟨ge,1,none⟩=some (.int .i64 et)) (fun _=>false) (by kernel_rfl) ⟨c0,c1,y0,y1⟩ (fun hHeld=>?_)
              refine wpAnyT_take2 (i:=0) (v:=?_) rfl rfl (by kernel_rfl) (by kernel_rfl) (by kernel_rfl) (by kernel_rfl) (fun _ _ _ h=>h) (Or.inl ⟨by rfl, ?_⟩) (by first | assumption | trivial) ?_
              rotate_left
              · (intro w hSw; (try dsimp only at hSw); go_simp) <;> (with_reducible rfl)
              simp only [List.setIfInBounds_toArray,List.set_cons_zero,List.set_cons_succ]
              refine wpAnyT_take2 (i:=1) (v:=?_) rfl rfl (by kernel_rfl) (by kernel_rfl) (by kernel_rfl) (by kernel_rfl) (fun _ _ _ h=>h) (Or.inl ⟨by rfl, ?_⟩) (by first | assumption | trivial) ?_
              rotate_left
              · (intro w hSw; (try dsimp only at hSw); go_simp) <;> (with_reducible rfl)
              simp only [List.setIfInBounds_toArray,List.set_cons_zero,List.set_cons_succ]
              refine wpAnyT_next (i:=2) (by kernel_rfl) rfl ?_
              go_wp2_with fail
              refine And.intro (by first | exact hHeld | exact fun _=>hHeld) ?_
              refine wpAnyT_take2 (i:=3) (v:=?_) rfl rfl (by kernel_rfl) (by kernel_rfl) (by kernel_rfl) (by kernel_rfl) (fun _ _ _ h=>h) (Or.inl ⟨by rfl, ?_⟩) (by first | assumption | trivial) ?_
              rotate_left
              · (intro w hSw; (try dsimp only at hSw); go_simp) <;> (with_reducible rfl)
              simp only [List.setIfInBounds_toArray,List.set_cons_zero,List.set_cons_succ]
              refine wpAnyT_take2 (i:=4) (v:=?_) rfl rfl (by kernel_rfl) (by kernel_rfl) (by kernel_rfl) (by kernel_rfl) (fun _ _ _ h=>h) (Or.inl ⟨by rfl, ?_⟩) (by first | assumption | trivial) ?_
              rotate_left
              · (intro w hSw; (try dsimp only at hSw); go_simp) <;> (with_reducible rfl)
              simp only [List.setIfInBounds_toArray,List.set_cons_zero,List.set_cons_succ]
              refine wpAnyT_take2 (i:=5) (v:=?_) rfl rfl (by kernel_rfl) (by kernel_rfl) (by kernel_rfl) (by kernel_rfl) (fun _ _ _ h=>h) (Or.inl ⟨by rfl, ?_⟩) (by first | assumption | trivial) ?_
              rotate_left
              · (intro w hSw; (try dsimp only at hSw); go_simp) <;> (with_reducible rfl)
              simp only [List.setIfInBounds_toArray,List.set_cons_zero,List.set_cons_succ]
              refine wpAnyT_take2 (i:=6) (v:=?_) rfl rfl (by kernel_rfl) (by kernel_rfl) (by kernel_rfl) (by kernel_rfl) (fun _ _ _ h=>h) (Or.inl ⟨by rfl, ?_⟩) (by first | assumption | trivial) ?_
              rotate_left
              · (intro w hSw; (try dsimp only at hSw); go_simp) <;> (with_reducible rfl)
              simp only [List.setIfInBounds_toArray,List.set_cons_zero,List.set_cons_succ]
              refine wpAnyT_take2 (i:=7) (v:=?_) rfl rfl (by kernel_rfl) (by kernel_rfl) (by kernel_rfl) (by kernel_rfl) (fun _ _ _ h=>h) (Or.inl ⟨by rfl, ?_⟩) (by first | assumption | trivial) ?_
              rotate_left
              · (intro w hSw; (try dsimp only at hSw); go_simp) <;> (with_reducible rfl)
              simp only [List.setIfInBounds_toArray,List.set_cons_zero,List.set_cons_succ]
              refine wpAnyT_take2 (i:=8) (v:=?_) rfl rfl (by kernel_rfl) (by kernel_rfl) (by kernel_rfl) (by kernel_rfl) (fun _ _ _ h=>h) (Or.inl ⟨by rfl, ?_⟩) (by first | assumption | trivial) ?_
              rotate_left
              · (intro w hSw; (try dsimp only at hSw); go_simp) <;> (with_reducible rfl)
              simp only [List.setIfInBounds_toArray,List.set_cons_zero,List.set_cons_succ]
              refine wpAnyT_take2 (i:=9) (v:=?_) rfl rfl (by kernel_rfl) (by kernel_rfl) (by kernel_rfl) (by kernel_rfl) (fun _ _ _ h=>h) (Or.inl ⟨by rfl, ?_⟩) (by first | assumption | trivial) ?_
              rotate_left
              · (intro w hSw; (try dsimp only at hSw); go_simp) <;> (with_reducible rfl)
              simp only [List.setIfInBounds_toArray,List.set_cons_zero,List.set_cons_succ]
              refine wpAnyT_take2 (i:=10) (v:=?_) rfl rfl (by kernel_rfl) (by kernel_rfl) (by kernel_rfl) (by kernel_rfl) (fun _ _ _ h=>h) (Or.inl ⟨by rfl, ?_⟩) (by first | assumption | trivial) ?_
              rotate_left
              · (intro w hSw; (try dsimp only at hSw); go_simp) <;> (with_reducible rfl)
              simp only [List.setIfInBounds_toArray,List.set_cons_zero,List.set_cons_succ]
              refine wpAnyT_take2 (i:=11) (v:=?_) rfl rfl (by kernel_rfl) (by kernel_rfl) (by kernel_rfl) (by kernel_rfl) (fun _ _ _ h=>h) (Or.inl ⟨by rfl, ?_⟩) (by first | assumption | trivial) ?_
              rotate_left
              · (intro w hSw; (try dsimp only at hSw); go_simp) <;> (with_reducible rfl)
              simp only [List.setIfInBounds_toArray,List.set_cons_zero,List.set_cons_succ]
              refine wpAnyT_take2 (i:=12) (v:=.bool false) rfl rfl (by kernel_rfl) (by kernel_rfl) (by kernel_rfl) (by kernel_rfl) (fun _ _ _ h=>h) (Or.inl ⟨by rfl, ?_⟩) (by first | assumption | trivial) ?_
              · (intro w hSw; (try dsimp only at hSw); go_simp) <;> (first | (with_reducible rfl) | assumption | (simp; done) | (simp [*]; done) | (simp; omega))
              simp only [List.setIfInBounds_toArray,List.set_cons_zero,List.set_cons_succ]
              refine wpAnyT_take2 (i:=13) (v:=?_) rfl rfl (by kernel_rfl) (by kernel_rfl) (by kernel_rfl) (by kernel_rfl) (fun _ _ _ h=>h) (Or.inl ⟨by rfl, ?_⟩) (by first | assumption | trivial) ?_
              rotate_left
              · (intro w hSw; (try dsimp only at hSw); go_simp) <;> (with_reducible rfl)
              simp only [List.setIfInBounds_toArray,List.set_cons_zero,List.set_cons_succ]
              refine wpAnyT_take2 (i:=14) (v:=?_) rfl rfl (by kernel_rfl) (by kernel_rfl) (by kernel_rfl) (by kernel_rfl) (fun _ _ _ h=>h) (Or.inl ⟨by rfl, ?_⟩) (by first | assumption | trivial) ?_
              rotate_left
              · (intro w hSw; (try dsimp only at hSw); go_simp) <;> (with_reducible rfl)
              simp only [List.setIfInBounds_toArray,List.set_cons_zero,List.set_cons_succ]
              refine wpAnyT_take2 (i:=15) (v:=?_) rfl rfl (by kernel_rfl) (by kernel_rfl) (by kernel_rfl) (by kernel_rfl) (fun _ _ _ h=>h) (Or.inl ⟨by rfl, ?_⟩) (by first | assumption | trivial) ?_
              rotate_left
              · (intro w hSw; (try dsimp only at hSw); go_simp) <;> (with_reducible rfl)
              simp only [List.setIfInBounds_toArray,List.set_cons_zero,List.set_cons_succ]
              refine wpAnyT_take2 (i:=16) (v:=?_) rfl rfl (by kernel_rfl) (by kernel_rfl) (by kernel_rfl) (by kernel_rfl) (fun _ _ _ h=>h) (Or.inl ⟨by rfl, ?_⟩) (by first | assumption | trivial) ?_
              rotate_left
              · (intro w hSw; (try dsimp only at hSw); go_simp) <;> (with_reducible rfl)
              simp only [List.setIfInBounds_toArray,List.set_cons_zero,List.set_cons_succ]
              refine wpAnyT_take2 (i:=17) (v:=?_) rfl rfl (by kernel_rfl) (by kernel_rfl) (by kernel_rfl) (by kernel_rfl) (fun _ _ _ h=>h) (Or.inl ⟨by rfl, ?_⟩) (by first | assumption | trivial) ?_
              rotate_left
              · (intro w hSw; (try dsimp only at hSw); go_simp) <;> (with_reducible rfl)
              simp only [List.setIfInBounds_toArray,List.set_cons_zero,List.set_cons_succ]
              refine wpAnyT_take2 (i:=18) (v:=?_) rfl rfl (by kernel_rfl) (by kernel_rfl) (by kernel_rfl) (by kernel_rfl) (fun _ _ _ h=>h) (Or.inl ⟨by rfl, ?_⟩) (by first | assumption | trivial) ?_
              rotate_left
              · (intro w hSw; (try dsimp only at hSw); go_simp) <;> (with_reducible rfl)
              simp only [List.setIfInBounds_toArray,List.set_cons_zero,List.set_cons_succ]
              refine wpAnyT_take2 (i:=19) (v:=?_) rfl rfl (by kernel_rfl) (by kernel_rfl) (by kernel_rfl) (by kernel_rfl) (fun _ _ _ h=>h) (Or.inl ⟨by rfl, ?_⟩) (by first | assumption | trivial) ?_
              rotate_left
              · (intro w hSw; (try dsimp only at hSw); go_simp) <;> (with_reducible rfl)
              simp only [List.setIfInBounds_toArray,List.set_cons_zero,List.set_cons_succ]
              refine wpAnyT_take2 (i:=20) (v:=?_) rfl rfl (by kernel_rfl) (by kernel_rfl) (by kernel_rfl) (by kernel_rfl) (fun _ _ _ h=>h) (Or.inl ⟨by rfl, ?_⟩) (by first | assumption | trivial) ?_
              rotate_left
              · (intro w hSw; (try dsimp only at hSw); go_simp) <;> (with_reducible rfl)
              simp only [List.setIfInBounds_toArray,List.set_cons_zero,List.set_cons_succ]
              refine wpAnyT_take2 (i:=21) (v:=.bool true) rfl rfl (by kernel_rfl) (by kernel_rfl) (by kernel_rfl) (by kernel_rfl) (fun _ _ _ h=>h) (Or.inl ⟨by rfl, ?_⟩) (by first | assumption | trivial) ?_
              · (intro w hSw; (try dsimp only at hSw); go_simp) <;> (first | (with_reducible rfl) | assumption | (simp; done) | (simp [*]; done) | (simp; omega))
              simp only [List.setIfInBounds_toArray,List.set_cons_zero,List.set_cons_succ]
              refine wpAnyT_take2 (i:=22) (v:=?_) rfl rfl (by kernel_rfl) (by kernel_rfl) (by kernel_rfl) (by kernel_rfl) (fun _ _ _ h=>h) (Or.inl ⟨by rfl, ?_⟩) (by first | assumption | trivial) ?_
              rotate_left
              · (intro w hSw; (try dsimp only at hSw); go_simp) <;> (with_reducible rfl)
              simp only [List.setIfInBounds_toArray,List.set_cons_zero,List.set_cons_succ]
              refine wpAnyT_take2 (i:=23) (v:=?_) rfl rfl (by kernel_rfl) (by kernel_rfl) (by kernel_rfl) (by kernel_rfl) (fun _ _ _ h=>h) (Or.inl ⟨by rfl, ?_⟩) (by first | assumption | trivial) ?_
              rotate_left
              · (intro w hSw; (try dsimp only at hSw); go_simp) <;> (with_reducible rfl)
              simp only [List.setIfInBounds_toArray,List.set_cons_zero,List.set_cons_succ]
              refine wpAnyT_take2 (i:=24) (v:=?_) rfl rfl (by kernel_rfl) (by kernel_rfl) (by kernel_rfl) (by kernel_rfl) (fun _ _ _ h=>h) (Or.inl ⟨by rfl, ?_⟩) (by first | assumption | trivial) ?_
              rotate_left
              · (intro w hSw; (try dsimp only at hSw); go_simp) <;> (with_reducible rfl)
              simp only [List.setIfInBounds_toArray,List.set_cons_zero,List.set_cons_succ]
              refine wpAnyT_take2 (i:=25) (v:=?_) rfl rfl (by kernel_rfl) (by kernel_rfl) (by kernel_rfl) (by kernel_rfl) (fun _ _ _ h=>h) (Or.inl ⟨by rfl, ?_⟩) (by first | assumption | trivial) ?_
              rotate_left
              · (intro w hSw; (try dsimp only at hSw); go_simp) <;> (with_reducible rfl)
              simp only [List.setIfInBounds_toArray,List.set_cons_zero,List.set_cons_succ]
              refine wpAnyT_take2 (i:=26) (v:=?_) rfl rfl (by kernel_rfl) (by kernel_rfl) (by kernel_rfl) (by kernel_rfl) (fun _ _ _ h=>h) (Or.inl ⟨by rfl, ?_⟩) (by first | assumption | trivial) ?_
              rotate_left
              · (intro w hSw; (try dsimp only at hSw); go_simp) <;> (with_reducible rfl)
              simp only [List.setIfInBounds_toArray,List.set_cons_zero,List.set_cons_succ]
              refine wpAnyT_take2 (i:=27) (v:=?_) rfl rfl (by kernel_rfl) (by kernel_rfl) (by kernel_rfl) (by kernel_rfl) (fun _ _ _ h=>h) (Or.inl ⟨by rfl, ?_⟩) (by first | assumption | trivial) ?_
              rotate_left
              · (intro w hSw; (try dsimp only at hSw); go_simp) <;> (with_reducible rfl)
              simp only [List.setIfInBounds_toArray,List.set_cons_zero,List.set_cons_succ]
              refine wpAnyT_take2 (i:=28) (v:=?_) rfl rfl (by kernel_rfl) (by kernel_rfl) (by kernel_rfl) (by kernel_rfl) (fun _ _ _ h=>h) (Or.inl ⟨by rfl, ?_⟩) (by first | assumption | trivial) ?_
              rotate_left
              · (intro w hSw; (try dsimp only at hSw); go_simp) <;> (with_reducible rfl)
              simp only [List.setIfInBounds_toArray,List.set_cons_zero,List.set_cons_succ]
              refine wpAnyT_take2 (i:=29) (v:=?_) rfl rfl (by kernel_rfl) (by kernel_rfl) (by kernel_rfl) (by kernel_rfl) (fun _ _ _ h=>h) (Or.inl ⟨by rfl, ?_⟩) (by first | assumption | trivial) ?_
              rotate_left
              · (intro w hSw; (try dsimp only at hSw); go_simp) <;> (with_reducible rfl)
              simp only [List.setIfInBounds_toArray,List.set_cons_zero,List.set_cons_succ]
              refine wpAnyT_take2 (i:=30) (v:=.bool false) rfl rfl (by kernel_rfl) (by kernel_rfl) (by kernel_rfl) (by kernel_rfl) (fun _ _ _ h=>h) (Or.inl ⟨by rfl, ?_⟩) (by first | assumption | trivial) ?_
              · (intro w hSw; (try dsimp only at hSw); go_simp) <;> (first | (with_reducible rfl) | assumption | (simp; done) | (simp [*]; done) | (simp; omega))
              simp only [List.setIfInBounds_toArray,List.set_cons_zero,List.set_cons_succ]
              refine wpAnyT_take2 (i:=31) (v:=?_) rfl rfl (by kernel_rfl) (by kernel_rfl) (by kernel_rfl) (by kernel_rfl) (fun _ _ _ h=>h) (Or.inl ⟨by rfl, ?_⟩) (by first | assumption | trivial) ?_
              rotate_left
              · (intro w hSw; (try dsimp only at hSw); go_simp) <;> (with_reducible rfl)
              simp only [List.setIfInBounds_toArray,List.set_cons_zero,List.set_cons_succ]
              refine wpAnyT_take2 (i:=32) (v:=?_) rfl rfl (by kernel_rfl) (by kernel_rfl) (by kernel_rfl) (by kernel_rfl) (fun _ _ _ h=>h) (Or.inl ⟨by rfl, ?_⟩) (by first | assumption | trivial) ?_
              rotate_left
              · (intro w hSw; (try dsimp only at hSw); go_simp) <;> (with_reducible rfl)
              simp only [List.setIfInBounds_toArray,List.set_cons_zero,List.set_cons_succ]
              refine wpAnyT_take2 (i:=33) (v:=?_) rfl rfl (by kernel_rfl) (by kernel_rfl) (by kernel_rfl) (by kernel_rfl) (fun _ _ _ h=>h) (Or.inl ⟨by rfl, ?_⟩) (by first | assumption | trivial) ?_
              rotate_left
              · (intro w hSw; (try dsimp only at hSw); go_simp) <;> (with_reducible rfl)
              simp only [List.setIfInBounds_toArray,List.set_cons_zero,List.set_cons_succ]
              refine wpAnyT_done (by kernel_rfl) ?_ _
              clear hHeld
              go_wp2_with fail
              have HUL:=HU2
              have HXd:=Lib.hid HXu.out.drew
              have HBd : Hid (Below base w wr.drew):=Lib.hid (HB2.out.trans (HUL.out.mono hbs2))
              have HRl : Hid (Rd (· < wr.heap.size) 4 ED.enc wr.drew ⟨some ⟨g,0,none⟩,c,l⟩):=Lib.hid ((Own.rd ED.k HOu.out.drew).mono fun b hb=>hb.2)
              have hcc : l.length≤c:=HRl.out.1
              have hcm : c≤maxLen:=HRl.out.2.1
              unfold maxLen at hcm
              have hkc : k≤c:=by omega
              have hbu : base≤wr.heap.size:=Nat.le_trans hbs2 HUL.out.size
              have hsz : wr.heap.size=(wr.drew).heap.size:=rfl
              rw [hsz] at hbu HRl
              clear hsz HU HUL HXu HOu HX2 HO2 HB2 HT HBS y0 y1 y2 y3 yf yz
              obtain ⟨wu,hwu⟩ : ∃ x,x=wr.drew:=⟨_,rfl⟩
              rw [← hwu] at HXd HBd hbu HRl ⊢
              clear hwu
              obtain ⟨y0,y1,y2,y3,yf,yz⟩:=HXd.out.b4
              refine wp_region_T (fun W=>W.cell? ⟨ge,0,none⟩=some (.int .i64 ef)∧W.cell? ⟨ge,1,none⟩=some (.int .i64 et)∧W.cell? ⟨ge,2,none⟩=some (.int .i64 en)∧W.cell? ⟨ge,3,none⟩=some (.int .i64 ev)) (fun _=>false) (by kernel_rfl) ⟨y0,y1,y2,y3⟩ (fun hHeld=>?_)
              refine wpAnyT_take2 (i:=1) (v:=?_) rfl rfl (by kernel_rfl) (by kernel_rfl) (by kernel_rfl) (by kernel_rfl) (fun _ _ _ h=>h) (Or.inl ⟨by rfl, ?_⟩) (by first | assumption | trivial) ?_
              rotate_left
              · (intro w hSw; (try dsimp only at hSw); go_simp) <;> (with_reducible rfl)
              simp only [List.setIfInBounds_toArray,List.set_cons_zero,List.set_cons_succ]
              refine wpAnyT_take2 (i:=2) (v:=?_) rfl rfl (by kernel_rfl) (by kernel_rfl) (by kernel_rfl) (by kernel_rfl) (fun _ _ _ h=>h) (Or.inl ⟨by rfl, ?_⟩) (by first | assumption | trivial) ?_
              rotate_left
              · (intro w hSw; (try dsimp only at hSw); go_simp) <;> (with_reducible rfl)
              simp only [List.setIfInBounds_toArray,List.set_cons_zero,List.set_cons_succ]
              refine wpAnyT_take2 (i:=3) (v:=?_) rfl rfl (by kernel_rfl) (by kernel_rfl) (by kernel_rfl) (by kernel_rfl) (fun _ _ _ h=>h) (Or.inl ⟨by rfl, ?_⟩) (by first | assumption | trivial) ?_
              rotate_left
              · (intro w hSw; (try dsimp only at hSw); go_simp) <;> (with_reducible rfl)
              simp only [List.setIfInBounds_toArray,List.set_cons_zero,List.set_cons_succ]
              refine wpAnyT_take2 (i:=5) (v:=?_) rfl rfl (by kernel_rfl) (by kernel_rfl) (by kernel_rfl) (by kernel_rfl) (fun _ _ _ h=>h) (Or.inl ⟨by rfl, ?_⟩) (by first | assumption | trivial) ?_
              rotate_left
              · (intro w hSw; (try dsimp only at hSw); go_simp) <;> (with_reducible rfl)
              simp only [List.setIfInBounds_toArray,List.set_cons_zero,List.set_cons_succ]
              refine wpAnyT_take2 (i:=8) (v:=?_) rfl rfl (by kernel_rfl) (by kernel_rfl) (by kernel_rfl) (by kernel_rfl) (fun _ _ _ h=>h) (Or.inl ⟨by rfl, ?_⟩) (by first | assumption | trivial) ?_
              rotate_left
              · (intro w hSw; (try dsimp only at hSw); go_simp) <;> (with_reducible rfl)
              simp only [List.setIfInBounds_toArray,List.set_cons_zero,List.set_cons_succ]
              refine wpAnyT_take2 (i:=9) (v:=?_) rfl rfl (by kernel_rfl) (by kernel_rfl) (by kernel_rfl) (by kernel_rfl) (fun _ _ _ h=>h) (Or.inl ⟨by rfl, ?_⟩) (by first | assumption | trivial) ?_
              rotate_left
              · (intro w hSw; (try dsimp only at hSw); go_simp) <;> (with_reducible rfl)
              simp only [List.setIfInBounds_toArray,List.set_cons_zero,List.set_cons_succ]
              obtain ⟨a3,ha3⟩ : ∃ a,a=(if c=k then some (⟨g,0,none⟩ : Addr) else some (⟨g,k * 4,none⟩ : Addr)):=⟨_,rfl⟩
              refine wpAnyT_take2 (i:=10) (v:=.slice a3 (l.length - k) (c - k)) rfl rfl (by kernel_rfl) (by kernel_rfl) (by kernel_rfl) (by kernel_rfl) (fun _ _ _ h=>h) (Or.inl ⟨by rfl, ?_⟩) (by first | assumption | trivial) ?_
              · (intro w hSw; (try dsimp only at hSw); go_simp) <;> (first | (with_reducible rfl) | assumption | (simp; done) | (simp [*]; done) | (simp; omega))
              simp only [List.setIfInBounds_toArray,List.set_cons_zero,List.set_cons_succ]
              have HA3:=Lib.hid ha3
              clear ha3
              try (clear h1)
              try (clear h2)
              try (clear h3)
              try (clear hlt)
              try (clear hlt')
              clear hHeld y0 y1 y2 y3 yf yz
              have HUU : Hid (Below wu.heap.size wu wu.drew):=Lib.hid (Below.drew (Below.refl _ _))
              have HXX:=Lib.hid HXd.out.drew
              obtain ⟨w3,hw3⟩ : ∃ x,x=wu.drew:=⟨_,rfl⟩
              rw [← hw3] at HUU HXX ⊢
              clear hw3
              have htl : (l.take k).length=k:=by rw [List.length_take]; omega
              have hdl : (l.drop k).length=l.length - k:=List.length_drop
              apply cutT
              · intro fin0
                have FIN:=Lib.hid fin0
                clear fin0
                refine wpAnyT_two (i:=0) (j:=6) (by kernel_rfl) rfl rfl ?_ ?_
                · skip
                  go_wp2_with fail
                  have hal : Below w3.heap.size w3 (w3.alloc (.cells #[] 44)):=(Below.refl _ _).alloc (Nat.le_refl _) _
                  have HR1 : Hid (Own wu.heap.size 44 4 ED.enc (w3.alloc (.cells #[] 44)) ⟨some ⟨w3.heap.size,0,none⟩,0,[]⟩):=Lib.hid (Own.lit w3 #[] [] HUU.out.size (by simp) rfl ED.k)
                  replace HUU:=Lib.hid (HUU.out.trans (hal.mono HUU.out.size))
                  replace HXX:=Lib.hid (HXX.out.later hal)
                  clear hal
                  generalize w3.alloc (.cells #[] 44)=v4 at *
                  generalize w3.heap.size=g0 at *
                  refine And.intro (by first | exact ⟨HXX.out.cell 0,HXX.out.cell 1,HXX.out.cell 2,HXX.out.cell 3⟩ | exact fun _=>⟨HXX.out.cell 0,HXX.out.cell 1,HXX.out.cell 2,HXX.out.cell 3⟩) ?_
                  refine wpAnyT_two (i:=4) (j:=6) (by kernel_rfl) rfl rfl ?_ ?_
                  · skip
                    have hb2:=HUU.out.size
                    refine wpl_append_sl _ rfl (.tmp 64) (.tmp 67) _ rfl Try.underlying22 infoEdge (by omega) ED.k ED.one ⟨some ⟨g0,0,none⟩,0,[]⟩ ⟨some ⟨g,0,none⟩,c,l.take k⟩ rfl (by simp only [htl]; rfl) HR1.out ((HRl.out.below HUU.out).take k) (by simp [maxLen]; omega) (by simp; omega) hb2 ?_
                    intro A1 c1 v5 hown hg hAA
                    clear hAA
                    simp only [List.nil_append] at hown hg
                    simp only [List.nil_append,htl]
                    have hro : ∀ q,(Value.slice (some ⟨g0,0,none⟩) ([] : List ED).length 0).ownBlock=some q→wu.heap.size≤q:=fun q hq=>(own_row HR1.out q hq).2.1
                    replace HUU:=Lib.hid (HUU.out.trans (below_of_grown hg hb2 hro))
                    replace HXX:=Lib.hid (HXX.out.grown hg (fun e=>by have:=hro _ e.symm; have:=HXd.out.lt; omega))
                    replace HR1:=Lib.hid hown
                    clear hown hg hro hb2
                    go_wp2_with fail
                    refine And.intro (by first | exact ⟨HXX.out.cell 0,HXX.out.cell 1,HXX.out.cell 2,HXX.out.cell 3⟩ | exact fun _=>⟨HXX.out.cell 0,HXX.out.cell 1,HXX.out.cell 2,HXX.out.cell 3⟩) ?_
                    refine wpAnyT_next (i:=6) (by kernel_rfl) rfl ?_
                    go_wp2_with fail
                    have hal : Below v5.heap.size v5 (v5.alloc (.cells #[.int .i64 ef,.int .i64 et,.int .i64 en,.int .i64 ev] 44)):=(Below.refl _ _).alloc (Nat.le_refl _) _
                    have HE : Hid (Blk (v5.alloc (.cells #[.int .i64 ef,.int .i64 et,.int .i64 en,.int .i64 ev] 44)) v5.heap.size 44 #[.int .i64 ef,.int .i64 et,.int .i64 en,.int .i64 ev]):=Lib.hid (Blk.new _ _ _)
                    replace HUU:=Lib.hid (HUU.out.trans (hal.mono HUU.out.size))
                    replace HXX:=Lib.hid (HXX.out.later hal)
                    replace HR1:=Lib.hid (HR1.out.below hal)
                    clear hal
                    generalize v5.alloc (.cells #[.int .i64 ef,.int .i64 et,.int .i64 en,.int .i64 ev] 44)=v6 at *
                    generalize v5.heap.size=g6 at *
                    refine And.intro (by first | exact ⟨HXX.out.cell 0,HXX.out.cell 1,HXX.out.cell 2,HXX.out.cell 3⟩ | exact fun _=>⟨HXX.out.cell 0,HXX.out.cell 1,HXX.out.cell 2,HXX.out.cell 3⟩) ?_
                    revert HE
                    revert HR1
                    revert HXX
                    revert HUU
                    revert g0
                    revert g6
                    revert c1
                    revert A1
                    revert v6
                    exact FIN.out
                  · skip
                    go_wp2_with fail
                    have hal : Below v4.heap.size v4 (v4.alloc (.cells #[.int .i64 ef,.int .i64 et,.int .i64 en,.int .i64 ev] 44)):=(Below.refl _ _).alloc (Nat.le_refl _) _
                    have HE : Hid (Blk (v4.alloc (.cells #[.int .i64 ef,.int .i64 et,.int .i64 en,.int .i64 ev] 44)) v4.heap.size 44 #[.int .i64 ef,.int .i64 et,.int .i64 en,.int .i64 ev]):=Lib.hid (Blk.new _ _ _)
                    have HNE : Hid (g0≠v4.heap.size):=Lib.hid (Nat.ne_of_lt (HR1.out.bound g0 rfl))
                    replace HUU:=Lib.hid (HUU.out.trans (hal.mono HUU.out.size))
                    replace HXX:=Lib.hid (HXX.out.later hal)
                    replace HR1:=Lib.hid (HR1.out.below hal)
                    clear hal
                    generalize v4.alloc (.cells #[.int .i64 ef,.int .i64 et,.int .i64 en,.int .i64 ev] 44)=v5 at *
                    generalize v4.heap.size=g6 at *
                    refine And.intro (by first | exact ⟨HXX.out.cell 0,HXX.out.cell 1,HXX.out.cell 2,HXX.out.cell 3⟩ | exact fun _=>⟨HXX.out.cell 0,HXX.out.cell 1,HXX.out.cell 2,HXX.out.cell 3⟩) ?_
                    refine wpAnyT_next (i:=4) (by kernel_rfl) rfl ?_
                    have hb2:=HUU.out.size
                    refine wpl_append_sl _ rfl (.tmp 64) (.tmp 67) _ rfl Try.underlying22 infoEdge (by omega) ED.k ED.one ⟨some ⟨g0,0,none⟩,0,[]⟩ ⟨some ⟨g,0,none⟩,c,l.take k⟩ rfl (by simp only [htl]; rfl) HR1.out ((HRl.out.below HUU.out).take k) (by simp [maxLen]; omega) (by simp; omega) hb2 ?_
                    intro A1 c1 v6 hown hg hAA
                    clear hAA
                    simp only [List.nil_append] at hown hg
                    simp only [List.nil_append,htl]
                    have hro : ∀ q,(Value.slice (some ⟨g0,0,none⟩) ([] : List ED).length 0).ownBlock=some q→wu.heap.size≤q:=fun q hq=>(own_row HR1.out q hq).2.1
                    replace HUU:=Lib.hid (HUU.out.trans (below_of_grown hg hb2 hro))
                    replace HXX:=Lib.hid (HXX.out.grown hg (fun e=>by have:=hro _ e.symm; have:=HXd.out.lt; omega))
                    replace HE:=Lib.hid (HE.out.grown hg (fun e=>HNE.out (Option.some.inj (show some g6=some g0 from e)).symm))
                    replace HR1:=Lib.hid hown
                    clear hown hg hro hb2
                    go_wp2_with fail
                    refine And.intro (by first | exact ⟨HXX.out.cell 0,HXX.out.cell 1,HXX.out.cell 2,HXX.out.cell 3⟩ | exact fun _=>⟨HXX.out.cell 0,HXX.out.cell 1,HXX.out.cell 2,HXX.out.cell 3⟩) ?_
                    exact wpAnyT_listed (by kernel_rfl) (FIN.out v6 A1 c1 g6 g0 HUU HXX HR1 HE)
                · skip
                  go_wp2_with fail
                  have hal : Below w3.heap.size w3 (w3.alloc (.cells #[.int .i64 ef,.int .i64 et,.int .i64 en,.int .i64 ev] 44)):=(Below.refl _ _).alloc (Nat.le_refl _) _
                  have HE : Hid (Blk (w3.alloc (.cells #[.int .i64 ef,.int .i64 et,.int .i64 en,.int .i64 ev] 44)) w3.heap.size 44 #[.int .i64 ef,.int .i64 et,.int .i64 en,.int .i64 ev]):=Lib.hid (Blk.new _ _ _)
                  replace HUU:=Lib.hid (HUU.out.trans (hal.mono HUU.out.size))
                  replace HXX:=Lib.hid (HXX.out.later hal)
                  clear hal
                  generalize w3.alloc (.cells #[.int .i64 ef,.int .i64 et,.int .i64 en,.int .i64 ev] 44)=v4 at *
                  generalize w3.heap.size=g6 at *
                  refine And.intro (by first | exact ⟨HXX.out.cell 0,HXX.out.cell 1,HXX.out.cell 2,HXX.out.cell 3⟩ | exact fun _=>⟨HXX.out.cell 0,HXX.out.cell 1,HXX.out.cell 2,HXX.out.cell 3⟩) ?_
                  refine wpAnyT_next (i:=0) (by kernel_rfl) rfl ?_
                  go_wp2_with fail
                  have hal : Below v4.heap.size v4 (v4.alloc (.cells #[] 44)):=(Below.refl _ _).alloc (Nat.le_refl _) _
                  have HR1 : Hid (Own wu.heap.size 44 4 ED.enc (v4.alloc (.cells #[] 44)) ⟨some ⟨v4.heap.size,0,none⟩,0,[]⟩):=Lib.hid (Own.lit v4 #[] [] HUU.out.size (by simp) rfl ED.k)
                  have HNE : Hid (v4.heap.size≠g6):=Lib.hid (Nat.ne_of_gt HE.out.lt)
                  replace HUU:=Lib.hid (HUU.out.trans (hal.mono HUU.out.size))
                  replace HXX:=Lib.hid (HXX.out.later hal)
                  replace HE:=Lib.hid (HE.out.later hal)
                  clear hal
                  generalize v4.alloc (.cells #[] 44)=v5 at *
                  generalize v4.heap.size=g0 at *
                  refine And.intro (by first | exact ⟨HXX.out.cell 0,HXX.out.cell 1,HXX.out.cell 2,HXX.out.cell 3⟩ | exact fun _=>⟨HXX.out.cell 0,HXX.out.cell 1,HXX.out.cell 2,HXX.out.cell 3⟩) ?_
                  refine wpAnyT_next (i:=4) (by kernel_rfl) rfl ?_
                  have hb2:=HUU.out.size
                  refine wpl_append_sl _ rfl (.tmp 64) (.tmp 67) _ rfl Try.underlying22 infoEdge (by omega) ED.k ED.one ⟨some ⟨g0,0,none⟩,0,[]⟩ ⟨some ⟨g,0,none⟩,c,l.take k⟩ rfl (by simp only [htl]; rfl) HR1.out ((HRl.out.below HUU.out).take k) (by simp [maxLen]; omega) (by simp; omega) hb2 ?_
                  intro A1 c1 v6 hown hg hAA
                  clear hAA
                  simp only [List.nil_append] at hown hg
                  simp only [List.nil_append,htl]
                  have hro : ∀ q,(Value.slice (some ⟨g0,0,none⟩) ([] : List ED).length 0).ownBlock=some q→wu.heap.size≤q:=fun q hq=>(own_row HR1.out q hq).2.1
                  replace HUU:=Lib.hid (HUU.out.trans (below_of_grown hg hb2 hro))
                  replace HXX:=Lib.hid (HXX.out.grown hg (fun e=>by have:=hro _ e.symm; have:=HXd.out.lt; omega))
                  replace HE:=Lib.hid (HE.out.grown hg (fun e=>HNE.out (Option.some.inj (show some g6=some g0 from e)).symm))
                  replace HR1:=Lib.hid hown
                  clear hown hg hro hb2
                  go_wp2_with fail
                  refine And.intro (by first | exact ⟨HXX.out.cell 0,HXX.out.cell 1,HXX.out.cell 2,HXX.out.cell 3⟩ | exact fun _=>⟨HXX.out.cell 0,HXX.out.cell 1,HXX.out.cell 2,HXX.out.cell 3⟩) ?_
                  exact wpAnyT_listed (by kernel_rfl) (FIN.out v6 A1 c1 g6 g0 HUU HXX HR1 HE)
              · intro W A1 c1 g6 g0 HUU HXX HR1 HE
                refine wpAnyT_next (i:=7) (by kernel_rfl) rfl ?_
                have hb2:=HUU.out.size
                refine wpl_append_sl _ rfl (.tmp 68) (.tmp 70) _ rfl Try.underlying22 infoEdge (by omega) ED.k ED.one ⟨A1,c1,l.take k⟩ ⟨some ⟨g6,0,none⟩,1,[⟨ef,et,en,ev⟩]⟩ (by simp only [htl]; rfl) rfl HR1.out (rd_ed1 HE.out) (by first | (simp [maxLen]; done) | (simp [maxLen]; omega)) (by first | (simp; done) | (simp; omega)) hb2 ?_
                intro A2 c2 w5 hown hg hAA
                clear hAA
                simp only at hown hg
                have hro : ∀ q,(Value.slice A1 (l.take k).length c1).ownBlock=some q→wu.heap.size≤q:=fun q hq=>(own_row HR1.out q hq).2.1
                replace HUU:=Lib.hid (HUU.out.trans (below_of_grown hg hb2 hro))
                replace HXX:=Lib.hid (HXX.out.grown hg (fun e=>by have:=hro _ e.symm; have:=HXd.out.lt; omega))
                have HR2:=Lib.hid hown
                clear hown hg hro hb2 HR1 HE
                have hl2 : (l.take k ++ [(⟨ef,et,en,ev⟩ : ED)]).length≤1001:=by first | (simp; done) | (simp; omega)
                obtain ⟨l1,hl1⟩ : ∃ X,l.take k ++ [(⟨ef,et,en,ev⟩ : ED)]=X:=⟨_,rfl⟩
                rw [hl1] at HR2 hl2 ⊢
                have HL1:=Lib.hid hl1
                clear hl1
                go_wp2_with fail
                refine And.intro (by first | exact ⟨HXX.out.cell 0,HXX.out.cell 1,HXX.out.cell 2,HXX.out.cell 3⟩ | exact fun _=>⟨HXX.out.cell 0,HXX.out.cell 1,HXX.out.cell 2,HXX.out.cell 3⟩) ?_
                refine wpAnyT_next (i:=11) (by kernel_rfl) rfl ?_
                have hb2:=HUU.out.size
                have hrd:=rd_drop (HRl.out.below HUU.out) hkl HA3.out
                refine wpl_append_sl _ rfl (.tmp 71) (.tmp 74) _ rfl Try.underlying22 infoEdge (by omega) ED.k ED.one ⟨A2,c2,l1⟩ ⟨a3,c - k,l.drop k⟩ rfl (by first | (simp only [hdl]; rfl) | (simp only [hdl,Nat.sub_self]; rfl)) HR2.out hrd (by simp [maxLen]; omega) (by simp; omega) hb2 ?_
                intro A3 c3 w6 hown hg hAA
                clear hAA
                simp only at hown hg
                have hro : ∀ q,(Value.slice A2 l1.length c2).ownBlock=some q→wu.heap.size≤q:=fun q hq=>(own_row HR2.out q hq).2.1
                replace HUU:=Lib.hid (HUU.out.trans (below_of_grown hg hb2 hro))
                replace HXX:=Lib.hid (HXX.out.grown hg (fun e=>by have:=hro _ e.symm; have:=HXd.out.lt; omega))
                have HR3:=Lib.hid hown
                clear hown hg hro hb2 HR2
                obtain ⟨l2,hl2⟩ : ∃ X,l1 ++ l.drop k=X:=⟨_,rfl⟩
                rw [hl2] at HR3 ⊢
                have HVL : Hid (V=l2):=Lib.hid (by rw [HVI.out,insE_at,HT2.out,← hl2,← HL1.out]; simp)
                clear hl2
                go_wp2_with fail
                refine And.intro (by first | exact ⟨HXX.out.cell 0,HXX.out.cell 1,HXX.out.cell 2,HXX.out.cell 3⟩ | exact fun _=>⟨HXX.out.cell 0,HXX.out.cell 1,HXX.out.cell 2,HXX.out.cell 3⟩) ?_
                have hHeld:=And.intro (HXX.out.cell 0) (And.intro (HXX.out.cell 1) (And.intro (HXX.out.cell 2) (HXX.out.cell 3)))
                refine wpAnyT_take2 (i:=12) (v:=?_) rfl rfl (by kernel_rfl) (by kernel_rfl) (by kernel_rfl) (by kernel_rfl) (fun _ _ _ h=>h) (Or.inl ⟨by rfl, ?_⟩) (by first | assumption | trivial) ?_
                rotate_left
                · (intro w hSw; (try dsimp only at hSw); go_simp) <;> (with_reducible rfl)
                simp only [List.setIfInBounds_toArray,List.set_cons_zero,List.set_cons_succ]
                clear hHeld
                refine wpAnyT_done (by kernel_rfl) ?_ _
                go_wp2_with fail
                go_ret
                exact ⟨A3,c3,by rw [HVL.out]; rfl,by rw [HVL.out]; exact HR3.out.mono hbu,HBd.out.trans (HUU.out.mono hbu)⟩
          · have HT2:=Lib.hid (tw_stop HXX.out HT.out (by unfold ltE; simp only; omega))
            have HU2:=Lib.hid hdr
            clear hdr
            go_wp2_with fail
            refine wp_region_T (fun W=>W.cell? ⟨g,k * 4,none⟩=some (.int .i64 xf)∧W.cell? ⟨g,k * 4+1,none⟩=some (.int .i64 xt)∧W.cell? ⟨ge,0,none⟩=some (.int .i64 ef)∧W.cell? ⟨ge,1,none⟩=some (.int .i64 et)) (fun _=>false) (by kernel_rfl) ⟨c0,c1,y0,y1⟩ (fun hHeld=>?_)
            refine wpAnyT_take2 (i:=0) (v:=?_) rfl rfl (by kernel_rfl) (by kernel_rfl) (by kernel_rfl) (by kernel_rfl) (fun _ _ _ h=>h) (Or.inl ⟨by rfl, ?_⟩) (by first | assumption | trivial) ?_
            rotate_left
            · (intro w hSw; (try dsimp only at hSw); go_simp) <;> (with_reducible rfl)
            simp only [List.setIfInBounds_toArray,List.set_cons_zero,List.set_cons_succ]
            refine wpAnyT_take2 (i:=1) (v:=?_) rfl rfl (by kernel_rfl) (by kernel_rfl) (by kernel_rfl) (by kernel_rfl) (fun _ _ _ h=>h) (Or.inl ⟨by rfl, ?_⟩) (by first | assumption | trivial) ?_
            rotate_left
            · (intro w hSw; (try dsimp only at hSw); go_simp) <;> (with_reducible rfl)
            simp only [List.setIfInBounds_toArray,List.set_cons_zero,List.set_cons_succ]
            refine wpAnyT_next (i:=2) (by kernel_rfl) rfl ?_
            go_wp2_with fail
            refine And.intro (by first | exact hHeld | exact fun _=>hHeld) ?_
            refine wpAnyT_take2 (i:=3) (v:=?_) rfl rfl (by kernel_rfl) (by kernel_rfl) (by kernel_rfl) (by kernel_rfl) (fun _ _ _ h=>h) (Or.inl ⟨by rfl, ?_⟩) (by first | assumption | trivial) ?_
            rotate_left
            · (intro w hSw; (try dsimp only at hSw); go_simp) <;> (with_reducible rfl)
            simp only [List.setIfInBounds_toArray,List.set_cons_zero,List.set_cons_succ]
            refine wpAnyT_take2 (i:=4) (v:=?_) rfl rfl (by kernel_rfl) (by kernel_rfl) (by kernel_rfl) (by kernel_rfl) (fun _ _ _ h=>h) (Or.inl ⟨by rfl, ?_⟩) (by first | assumption | trivial) ?_
            rotate_left
            · (intro w hSw; (try dsimp only at hSw); go_simp) <;> (with_reducible rfl)
            simp only [List.setIfInBounds_toArray,List.set_cons_zero,List.set_cons_succ]
            refine wpAnyT_take2 (i:=5) (v:=?_) rfl rfl (by kernel_rfl) (by kernel_rfl) (by kernel_rfl) (by kernel_rfl) (fun _ _ _ h=>h) (Or.inl ⟨by rfl, ?_⟩) (by first | assumption | trivial) ?_
            rotate_left
            · (intro w hSw; (try dsimp only at hSw); go_simp) <;> (with_reducible rfl)
            simp only [List.setIfInBounds_toArray,List.set_cons_zero,List.set_cons_succ]
            refine wpAnyT_take2 (i:=6) (v:=?_) rfl rfl (by kernel_rfl) (by kernel_rfl) (by kernel_rfl) (by kernel_rfl) (fun _ _ _ h=>h) (Or.inl ⟨by rfl, ?_⟩) (by first | assumption | trivial) ?_
            rotate_left
            · (intro w hSw; (try dsimp only at hSw); go_simp) <;> (with_reducible rfl)
            simp only [List.setIfInBounds_toArray,List.set_cons_zero,List.set_cons_succ]
            refine wpAnyT_take2 (i:=7) (v:=?_) rfl rfl (by kernel_rfl) (by kernel_rfl) (by kernel_rfl) (by kernel_rfl) (fun _ _ _ h=>h) (Or.inl ⟨by rfl, ?_⟩) (by first | assumption | trivial) ?_
            rotate_left
            · (intro w hSw; (try dsimp only at hSw); go_simp) <;> (with_reducible rfl)
            simp only [List.setIfInBounds_toArray,List.set_cons_zero,List.set_cons_succ]
            refine wpAnyT_take2 (i:=8) (v:=?_) rfl rfl (by kernel_rfl) (by kernel_rfl) (by kernel_rfl) (by kernel_rfl) (fun _ _ _ h=>h) (Or.inl ⟨by rfl, ?_⟩) (by first | assumption | trivial) ?_
            rotate_left
            · (intro w hSw; (try dsimp only at hSw); go_simp) <;> (with_reducible rfl)
            simp only [List.setIfInBounds_toArray,List.set_cons_zero,List.set_cons_succ]
            refine wpAnyT_take2 (i:=9) (v:=?_) rfl rfl (by kernel_rfl) (by kernel_rfl) (by kernel_rfl) (by kernel_rfl) (fun _ _ _ h=>h) (Or.inl ⟨by rfl, ?_⟩) (by first | assumption | trivial) ?_
            rotate_left
            · (intro w hSw; (try dsimp only at hSw); go_simp) <;> (with_reducible rfl)
            simp only [List.setIfInBounds_toArray,List.set_cons_zero,List.set_cons_succ]
            refine wpAnyT_take2 (i:=10) (v:=?_) rfl rfl (by kernel_rfl) (by kernel_rfl) (by kernel_rfl) (by kernel_rfl) (fun _ _ _ h=>h) (Or.inl ⟨by rfl, ?_⟩) (by first | assumption | trivial) ?_
            rotate_left
            · (intro w hSw; (try dsimp only at hSw); go_simp) <;> (with_reducible rfl)
            simp only [List.setIfInBounds_toArray,List.set_cons_zero,List.set_cons_succ]
            refine wpAnyT_take2 (i:=11) (v:=?_) rfl rfl (by kernel_rfl) (by kernel_rfl) (by kernel_rfl) (by kernel_rfl) (fun _ _ _ h=>h) (Or.inl ⟨by rfl, ?_⟩) (by first | assumption | trivial) ?_
            rotate_left
            · (intro w hSw; (try dsimp only at hSw); go_simp) <;> (with_reducible rfl)
            simp only [List.setIfInBounds_toArray,List.set_cons_zero,List.set_cons_succ]
            refine wpAnyT_take2 (i:=12) (v:=.bool false) rfl rfl (by kernel_rfl) (by kernel_rfl) (by kernel_rfl) (by kernel_rfl) (fun _ _ _ h=>h) (Or.inl ⟨by rfl, ?_⟩) (by first | assumption | trivial) ?_
            · (intro w hSw; (try dsimp only at hSw); go_simp) <;> (first | (with_reducible rfl) | assumption | (simp; done) | (simp [*]; done) | (simp; omega))
            simp only [List.setIfInBounds_toArray,List.set_cons_zero,List.set_cons_succ]
            refine wpAnyT_take2 (i:=13) (v:=?_) rfl rfl (by kernel_rfl) (by kernel_rfl) (by kernel_rfl) (by kernel_rfl) (fun _ _ _ h=>h) (Or.inl ⟨by rfl, ?_⟩) (by first | assumption | trivial) ?_
            rotate_left
            · (intro w hSw; (try dsimp only at hSw); go_simp) <;> (with_reducible rfl)
            simp only [List.setIfInBounds_toArray,List.set_cons_zero,List.set_cons_succ]
            refine wpAnyT_take2 (i:=14) (v:=?_) rfl rfl (by kernel_rfl) (by kernel_rfl) (by kernel_rfl) (by kernel_rfl) (fun _ _ _ h=>h) (Or.inl ⟨by rfl, ?_⟩) (by first | assumption | trivial) ?_
            rotate_left
            · (intro w hSw; (try dsimp only at hSw); go_simp) <;> (with_reducible rfl)
            simp only [List.setIfInBounds_toArray,List.set_cons_zero,List.set_cons_succ]
            refine wpAnyT_take2 (i:=15) (v:=?_) rfl rfl (by kernel_rfl) (by kernel_rfl) (by kernel_rfl) (by kernel_rfl) (fun _ _ _ h=>h) (Or.inl ⟨by rfl, ?_⟩) (by first | assumption | trivial) ?_
            rotate_left
            · (intro w hSw; (try dsimp only at hSw); go_simp) <;> (with_reducible rfl)
            simp only [List.setIfInBounds_toArray,List.set_cons_zero,List.set_cons_succ]
            refine wpAnyT_take2 (i:=16) (v:=?_) rfl rfl (by kernel_rfl) (by kernel_rfl) (by kernel_rfl) (by kernel_rfl) (fun _ _ _ h=>h) (Or.inl ⟨by rfl, ?_⟩) (by first | assumption | trivial) ?_
            rotate_left
            · (intro w hSw; (try dsimp only at hSw); go_simp) <;> (with_reducible rfl)
            simp only [List.setIfInBounds_toArray,List.set_cons_zero,List.set_cons_succ]
            refine wpAnyT_take2 (i:=17) (v:=?_) rfl rfl (by kernel_rfl) (by kernel_rfl) (by kernel_rfl) (by kernel_rfl) (fun _ _ _ h=>h) (Or.inl ⟨by rfl, ?_⟩) (by first | assumption | trivial) ?_
            rotate_left
            · (intro w hSw; (try dsimp only at hSw); go_simp) <;> (with_reducible rfl)
            simp only [List.setIfInBounds_toArray,List.set_cons_zero,List.set_cons_succ]
            refine wpAnyT_take2 (i:=18) (v:=?_) rfl rfl (by kernel_rfl) (by kernel_rfl) (by kernel_rfl) (by kernel_rfl) (fun _ _ _ h=>h) (Or.inl ⟨by rfl, ?_⟩) (by first | assumption | trivial) ?_
            rotate_left
            · (intro w hSw; (try dsimp only at hSw); go_simp) <;> (with_reducible rfl)
            simp only [List.setIfInBounds_toArray,List.set_cons_zero,List.set_cons_succ]
            refine wpAnyT_take2 (i:=19) (v:=?_) rfl rfl (by kernel_rfl) (by kernel_rfl) (by kernel_rfl) (by kernel_rfl) (fun _ _ _ h=>h) (Or.inl ⟨by rfl, ?_⟩) (by first | assumption | trivial) ?_
            rotate_left
            · (intro w hSw; (try dsimp only at hSw); go_simp) <;> (with_reducible rfl)
            simp only [List.setIfInBounds_toArray,List.set_cons_zero,List.set_cons_succ]
            refine wpAnyT_take2 (i:=20) (v:=?_) rfl rfl (by kernel_rfl) (by kernel_rfl) (by kernel_rfl) (by kernel_rfl) (fun _ _ _ h=>h) (Or.inl ⟨by rfl, ?_⟩) (by first | assumption | trivial) ?_
            rotate_left
            · (intro w hSw; (try dsimp only at hSw); go_simp) <;> (with_reducible rfl)
            simp only [List.setIfInBounds_toArray,List.set_cons_zero,List.set_cons_succ]
            refine wpAnyT_take2 (i:=21) (v:=.bool false) rfl rfl (by kernel_rfl) (by kernel_rfl) (by kernel_rfl) (by kernel_rfl) (fun _ _ _ h=>h) (Or.inl ⟨by rfl, ?_⟩) (by first | assumption | trivial) ?_
            · (intro w hSw; (try dsimp only at hSw); go_simp) <;> (first | (with_reducible rfl) | assumption | (simp; done) | (simp [*]; done) | (simp; omega))
            simp only [List.setIfInBounds_toArray,List.set_cons_zero,List.set_cons_succ]
            refine wpAnyT_take2 (i:=22) (v:=?_) rfl rfl (by kernel_rfl) (by kernel_rfl) (by kernel_rfl) (by kernel_rfl) (fun _ _ _ h=>h) (Or.inl ⟨by rfl, ?_⟩) (by first | assumption | trivial) ?_
            rotate_left
            · (intro w hSw; (try dsimp only at hSw); go_simp) <;> (with_reducible rfl)
            simp only [List.setIfInBounds_toArray,List.set_cons_zero,List.set_cons_succ]
            refine wpAnyT_take2 (i:=23) (v:=undef) rfl rfl (by kernel_rfl) (by kernel_rfl) (by kernel_rfl) (by kernel_rfl) (fun _ _ _ h=>h) (Or.inr ⟨by rfl,rfl⟩) (by first | assumption | trivial) ?_
            simp only [List.setIfInBounds_toArray,List.set_cons_zero,List.set_cons_succ]
            refine wpAnyT_take2 (i:=24) (v:=undef) rfl rfl (by kernel_rfl) (by kernel_rfl) (by kernel_rfl) (by kernel_rfl) (fun _ _ _ h=>h) (Or.inr ⟨by rfl,rfl⟩) (by first | assumption | trivial) ?_
            simp only [List.setIfInBounds_toArray,List.set_cons_zero,List.set_cons_succ]
            refine wpAnyT_take2 (i:=25) (v:=undef) rfl rfl (by kernel_rfl) (by kernel_rfl) (by kernel_rfl) (by kernel_rfl) (fun _ _ _ h=>h) (Or.inr ⟨by rfl,rfl⟩) (by first | assumption | trivial) ?_
            simp only [List.setIfInBounds_toArray,List.set_cons_zero,List.set_cons_succ]
            refine wpAnyT_take2 (i:=26) (v:=undef) rfl rfl (by kernel_rfl) (by kernel_rfl) (by kernel_rfl) (by kernel_rfl) (fun _ _ _ h=>h) (Or.inr ⟨by rfl,rfl⟩) (by first | assumption | trivial) ?_
            simp only [List.setIfInBounds_toArray,List.set_cons_zero,List.set_cons_succ]
            refine wpAnyT_take2 (i:=27) (v:=undef) rfl rfl (by kernel_rfl) (by kernel_rfl) (by kernel_rfl) (by kernel_rfl) (fun _ _ _ h=>h) (Or.inr ⟨by rfl,rfl⟩) (by first | assumption | trivial) ?_
            simp only [List.setIfInBounds_toArray,List.set_cons_zero,List.set_cons_succ]
            refine wpAnyT_take2 (i:=28) (v:=undef) rfl rfl (by kernel_rfl) (by kernel_rfl) (by kernel_rfl) (by kernel_rfl) (fun _ _ _ h=>h) (Or.inr ⟨by rfl,rfl⟩) (by first | assumption | trivial) ?_
            simp only [List.setIfInBounds_toArray,List.set_cons_zero,List.set_cons_succ]
            refine wpAnyT_take2 (i:=29) (v:=undef) rfl rfl (by kernel_rfl) (by kernel_rfl) (by kernel_rfl) (by kernel_rfl) (fun _ _ _ h=>h) (Or.inr ⟨by rfl,rfl⟩) (by first | assumption | trivial) ?_
            simp only [List.setIfInBounds_toArray,List.set_cons_zero,List.set_cons_succ]
            refine wpAnyT_take2 (i:=30) (v:=undef) rfl rfl (by kernel_rfl) (by kernel_rfl) (by kernel_rfl) (by kernel_rfl) (fun _ _ _ h=>h) (Or.inr ⟨by rfl,rfl⟩) (by first | assumption | trivial) ?_
            simp only [List.setIfInBounds_toArray,List.set_cons_zero,List.set_cons_succ]
            refine wpAnyT_take2 (i:=31) (v:=?_) rfl rfl (by kernel_rfl) (by kernel_rfl) (by kernel_rfl) (by kernel_rfl) (fun _ _ _ h=>h) (Or.inl ⟨by rfl, ?_⟩) (by first | assumption | trivial) ?_
            rotate_left
            · (intro w hSw; (try dsimp only at hSw); go_simp) <;> (with_reducible rfl)
            simp only [List.setIfInBounds_toArray,List.set_cons_zero,List.set_cons_succ]
            refine wpAnyT_take2 (i:=32) (v:=?_) rfl rfl (by kernel_rfl) (by kernel_rfl) (by kernel_rfl) (by kernel_rfl) (fun _ _ _ h=>h) (Or.inl ⟨by rfl, ?_⟩) (by first | assumption | trivial) ?_
            rotate_left
            · (intro w hSw; (try dsimp only at hSw); go_simp) <;> (with_reducible rfl)
            simp only [List.setIfInBounds_toArray,List.set_cons_zero,List.set_cons_succ]
            refine wpAnyT_take2 (i:=33) (v:=?_) rfl rfl (by kernel_rfl) (by kernel_rfl) (by kernel_rfl) (by kernel_rfl) (fun _ _ _ h=>h) (Or.inl ⟨by rfl, ?_⟩) (by first | assumption | trivial) ?_
            rotate_left
            · (intro w hSw; (try dsimp only at hSw); go_simp) <;> (with_reducible rfl)
            simp only [List.setIfInBounds_toArray,List.set_cons_zero,List.set_cons_succ]
            refine wpAnyT_done (by kernel_rfl) ?_ _
            clear hHeld
            go_wp2_with fail
            have HUL:=HU2
            have HXd:=Lib.hid HXu.out.drew
            have HBd : Hid (Below base w wr.drew):=Lib.hid (HB2.out.trans (HUL.out.mono hbs2))
            have HRl : Hid (Rd (· < wr.heap.size) 4 ED.enc wr.drew ⟨some ⟨g,0,none⟩,c,l⟩):=Lib.hid ((Own.rd ED.k HOu.out.drew).mono fun b hb=>hb.2)
            have hcc : l.length≤c:=HRl.out.1
            have hcm : c≤maxLen:=HRl.out.2.1
            unfold maxLen at hcm
            have hkc : k≤c:=by omega
            have hbu : base≤wr.heap.size:=Nat.le_trans hbs2 HUL.out.size
            have hsz : wr.heap.size=(wr.drew).heap.size:=rfl
            rw [hsz] at hbu HRl
            clear hsz HU HUL HXu HOu HX2 HO2 HB2 HT HBS y0 y1 y2 y3 yf yz
            obtain ⟨wu,hwu⟩ : ∃ x,x=wr.drew:=⟨_,rfl⟩
            rw [← hwu] at HXd HBd hbu HRl ⊢
            clear hwu
            obtain ⟨y0,y1,y2,y3,yf,yz⟩:=HXd.out.b4
            refine wp_region_T (fun W=>W.cell? ⟨ge,0,none⟩=some (.int .i64 ef)∧W.cell? ⟨ge,1,none⟩=some (.int .i64 et)∧W.cell? ⟨ge,2,none⟩=some (.int .i64 en)∧W.cell? ⟨ge,3,none⟩=some (.int .i64 ev)) (fun _=>false) (by kernel_rfl) ⟨y0,y1,y2,y3⟩ (fun hHeld=>?_)
            refine wpAnyT_take2 (i:=1) (v:=?_) rfl rfl (by kernel_rfl) (by kernel_rfl) (by kernel_rfl) (by kernel_rfl) (fun _ _ _ h=>h) (Or.inl ⟨by rfl, ?_⟩) (by first | assumption | trivial) ?_
            rotate_left
            · (intro w hSw; (try dsimp only at hSw); go_simp) <;> (with_reducible rfl)
            simp only [List.setIfInBounds_toArray,List.set_cons_zero,List.set_cons_succ]
            refine wpAnyT_take2 (i:=2) (v:=?_) rfl rfl (by kernel_rfl) (by kernel_rfl) (by kernel_rfl) (by kernel_rfl) (fun _ _ _ h=>h) (Or.inl ⟨by rfl, ?_⟩) (by first | assumption | trivial) ?_
            rotate_left
            · (intro w hSw; (try dsimp only at hSw); go_simp) <;> (with_reducible rfl)
            simp only [List.setIfInBounds_toArray,List.set_cons_zero,List.set_cons_succ]
            refine wpAnyT_take2 (i:=3) (v:=?_) rfl rfl (by kernel_rfl) (by kernel_rfl) (by kernel_rfl) (by kernel_rfl) (fun _ _ _ h=>h) (Or.inl ⟨by rfl, ?_⟩) (by first | assumption | trivial) ?_
            rotate_left
            · (intro w hSw; (try dsimp only at hSw); go_simp) <;> (with_reducible rfl)
            simp only [List.setIfInBounds_toArray,List.set_cons_zero,List.set_cons_succ]
            refine wpAnyT_take2 (i:=5) (v:=?_) rfl rfl (by kernel_rfl) (by kernel_rfl) (by kernel_rfl) (by kernel_rfl) (fun _ _ _ h=>h) (Or.inl ⟨by rfl, ?_⟩) (by first | assumption | trivial) ?_
            rotate_left
            · (intro w hSw; (try dsimp only at hSw); go_simp) <;> (with_reducible rfl)
            simp only [List.setIfInBounds_toArray,List.set_cons_zero,List.set_cons_succ]
            refine wpAnyT_take2 (i:=8) (v:=?_) rfl rfl (by kernel_rfl) (by kernel_rfl) (by kernel_rfl) (by kernel_rfl) (fun _ _ _ h=>h) (Or.inl ⟨by rfl, ?_⟩) (by first | assumption | trivial) ?_
            rotate_left
            · (intro w hSw; (try dsimp only at hSw); go_simp) <;> (with_reducible rfl)
            simp only [List.setIfInBounds_toArray,List.set_cons_zero,List.set_cons_succ]
            refine wpAnyT_take2 (i:=9) (v:=?_) rfl rfl (by kernel_rfl) (by kernel_rfl) (by kernel_rfl) (by kernel_rfl) (fun _ _ _ h=>h) (Or.inl ⟨by rfl, ?_⟩) (by first | assumption | trivial) ?_
            rotate_left
            · (intro w hSw; (try dsimp only at hSw); go_simp) <;> (with_reducible rfl)
            simp only [List.setIfInBounds_toArray,List.set_cons_zero,List.set_cons_succ]
            obtain ⟨a3,ha3⟩ : ∃ a,a=(if c=k then some (⟨g,0,none⟩ : Addr) else some (⟨g,k * 4,none⟩ : Addr)):=⟨_,rfl⟩
            refine wpAnyT_take2 (i:=10) (v:=.slice a3 (l.length - k) (c - k)) rfl rfl (by kernel_rfl) (by kernel_rfl) (by kernel_rfl) (by kernel_rfl) (fun _ _ _ h=>h) (Or.inl ⟨by rfl, ?_⟩) (by first | assumption | trivial) ?_
            · (intro w hSw; (try dsimp only at hSw); go_simp) <;> (first | (with_reducible rfl) | assumption | (simp; done) | (simp [*]; done) | (simp; omega))
            simp only [List.setIfInBounds_toArray,List.set_cons_zero,List.set_cons_succ]
            have HA3:=Lib.hid ha3
            clear ha3
            try (clear h1)
            try (clear h2)
            try (clear h3)
            try (clear hlt)
            try (clear hlt')
            clear hHeld y0 y1 y2 y3 yf yz
            have HUU : Hid (Below wu.heap.size wu wu.drew):=Lib.hid (Below.drew (Below.refl _ _))
            have HXX:=Lib.hid HXd.out.drew
            obtain ⟨w3,hw3⟩ : ∃ x,x=wu.drew:=⟨_,rfl⟩
            rw [← hw3] at HUU HXX ⊢
            clear hw3
            have htl : (l.take k).length=k:=by rw [List.length_take]; omega
            have hdl : (l.drop k).length=l.length - k:=List.length_drop
            apply cutT
            · intro fin0
              have FIN:=Lib.hid fin0
              clear fin0
              refine wpAnyT_two (i:=0) (j:=6) (by kernel_rfl) rfl rfl ?_ ?_
              · skip
                go_wp2_with fail
                have hal : Below w3.heap.size w3 (w3.alloc (.cells #[] 44)):=(Below.refl _ _).alloc (Nat.le_refl _) _
                have HR1 : Hid (Own wu.heap.size 44 4 ED.enc (w3.alloc (.cells #[] 44)) ⟨some ⟨w3.heap.size,0,none⟩,0,[]⟩):=Lib.hid (Own.lit w3 #[] [] HUU.out.size (by simp) rfl ED.k)
                replace HUU:=Lib.hid (HUU.out.trans (hal.mono HUU.out.size))
                replace HXX:=Lib.hid (HXX.out.later hal)
                clear hal
                generalize w3.alloc (.cells #[] 44)=v4 at *
                generalize w3.heap.size=g0 at *
                refine And.intro (by first | exact ⟨HXX.out.cell 0,HXX.out.cell 1,HXX.out.cell 2,HXX.out.cell 3⟩ | exact fun _=>⟨HXX.out.cell 0,HXX.out.cell 1,HXX.out.cell 2,HXX.out.cell 3⟩) ?_
                refine wpAnyT_two (i:=4) (j:=6) (by kernel_rfl) rfl rfl ?_ ?_
                · skip
                  have hb2:=HUU.out.size
                  refine wpl_append_sl _ rfl (.tmp 64) (.tmp 67) _ rfl Try.underlying22 infoEdge (by omega) ED.k ED.one ⟨some ⟨g0,0,none⟩,0,[]⟩ ⟨some ⟨g,0,none⟩,c,l.take k⟩ rfl (by simp only [htl]; rfl) HR1.out ((HRl.out.below HUU.out).take k) (by simp [maxLen]; omega) (by simp; omega) hb2 ?_
                  intro A1 c1 v5 hown hg hAA
                  clear hAA
                  simp only [List.nil_append] at hown hg
                  simp only [List.nil_append,htl]
                  have hro : ∀ q,(Value.slice (some ⟨g0,0,none⟩) ([] : List ED).length 0).ownBlock=some q→wu.heap.size≤q:=fun q hq=>(own_row HR1.out q hq).2.1
                  replace HUU:=Lib.hid (HUU.out.trans (below_of_grown hg hb2 hro))
                  replace HXX:=Lib.hid (HXX.out.grown hg (fun e=>by have:=hro _ e.symm; have:=HXd.out.lt; omega))
                  replace HR1:=Lib.hid hown
                  clear hown hg hro hb2
                  go_wp2_with fail
                  refine And.intro (by first | exact ⟨HXX.out.cell 0,HXX.out.cell 1,HXX.out.cell 2,HXX.out.cell 3⟩ | exact fun _=>⟨HXX.out.cell 0,HXX.out.cell 1,HXX.out.cell 2,HXX.out.cell 3⟩) ?_
                  refine wpAnyT_next (i:=6) (by kernel_rfl) rfl ?_
                  go_wp2_with fail
                  have hal : Below v5.heap.size v5 (v5.alloc (.cells #[.int .i64 ef,.int .i64 et,.int .i64 en,.int .i64 ev] 44)):=(Below.refl _ _).alloc (Nat.le_refl _) _
                  have HE : Hid (Blk (v5.alloc (.cells #[.int .i64 ef,.int .i64 et,.int .i64 en,.int .i64 ev] 44)) v5.heap.size 44 #[.int .i64 ef,.int .i64 et,.int .i64 en,.int .i64 ev]):=Lib.hid (Blk.new _ _ _)
                  replace HUU:=Lib.hid (HUU.out.trans (hal.mono HUU.out.size))
                  replace HXX:=Lib.hid (HXX.out.later hal)
                  replace HR1:=Lib.hid (HR1.out.below hal)
                  clear hal
                  generalize v5.alloc (.cells #[.int .i64 ef,.int .i64 et,.int .i64 en,.int .i64 ev] 44)=v6 at *
                  generalize v5.heap.size=g6 at *
                  refine And.intro (by first | exact ⟨HXX.out.cell 0,HXX.out.cell 1,HXX.out.cell 2,HXX.out.cell 3⟩ | exact fun _=>⟨HXX.out.cell 0,HXX.out.cell 1,HXX.out.cell 2,HXX.out.cell 3⟩) ?_
                  revert HE
                  revert HR1
                  revert HXX
                  revert HUU
                  revert g0
                  revert g6
                  revert c1
                  revert A1
                  revert v6
                  exact FIN.out
                · skip
                  go_wp2_with fail
                  have hal : Below v4.heap.size v4 (v4.alloc (.cells #[.int .i64 ef,.int .i64 et,.int .i64 en,.int .i64 ev] 44)):=(Below.refl _ _).alloc (Nat.le_refl _) _
                  have HE : Hid (Blk (v4.alloc (.cells #[.int .i64 ef,.int .i64 et,.int .i64 en,.int .i64 ev] 44)) v4.heap.size 44 #[.int .i64 ef,.int .i64 et,.int .i64 en,.int .i64 ev]):=Lib.hid (Blk.new _ _ _)
                  have HNE : Hid (g0≠v4.heap.size):=Lib.hid (Nat.ne_of_lt (HR1.out.bound g0 rfl))
                  replace HUU:=Lib.hid (HUU.out.trans (hal.mono HUU.out.size))
                  replace HXX:=Lib.hid (HXX.out.later hal)
                  replace HR1:=Lib.hid (HR1.out.below hal)
                  clear hal
                  generalize v4.alloc (.cells #[.int .i64 ef,.int .i64 et,.int .i64 en,.int .i64 ev] 44)=v5 at *
                  generalize v4.heap.size=g6 at *
                  refine And.intro (by first | exact ⟨HXX.out.cell 0,HXX.out.cell 1,HXX.out.cell 2,HXX.out.cell 3⟩ | exact fun _=>⟨HXX.out.cell 0,HXX.out.cell 1,HXX.out.cell 2,HXX.out.cell 3⟩) ?_
                  refine wpAnyT_next (i:=4) (by kernel_rfl) rfl ?_
                  have hb2:=HUU.out.size
                  refine wpl_append_sl _ rfl (.tmp 64) (.tmp 67) _ rfl Try.underlying22 infoEdge (by omega) ED.k ED.one ⟨some ⟨g0,0,none⟩,0,[]⟩ ⟨some ⟨g,0,none⟩,c,l.take k⟩ rfl (by simp only [htl]; rfl) HR1.out ((HRl.out.below HUU.out).take k) (by simp [maxLen]; omega) (by simp; omega) hb2 ?_
                  intro A1 c1 v6 hown hg hAA
                  clear hAA
                  simp only [List.nil_append] at hown hg
                  simp only [List.nil_append,htl]
                  have hro : ∀ q,(Value.slice (some ⟨g0,0,none⟩) ([] : List ED).length 0).ownBlock=some q→wu.heap.size≤q:=fun q hq=>(own_row HR1.out q hq).2.1
                  replace HUU:=Lib.hid (HUU.out.trans (below_of_grown hg hb2 hro))
                  replace HXX:=Lib.hid (HXX.out.grown hg (fun e=>by have:=hro _ e.symm; have:=HXd.out.lt; omega))
                  replace HE:=Lib.hid (HE.out.grown hg (fun e=>HNE.out (Option.some.inj (show some g6=some g0 from e)).symm))
                  replace HR1:=Lib.hid hown
                  clear hown hg hro hb2
                  go_wp2_with fail
                  refine And.intro (by first | exact ⟨HXX.out.cell 0,HXX.out.cell 1,HXX.out.cell 2,HXX.out.cell 3⟩ | exact fun _=>⟨HXX.out.cell 0,HXX.out.cell 1,HXX.out.cell 2,HXX.out.cell 3⟩) ?_
                  exact wpAnyT_listed (by kernel_rfl) (FIN.out v6 A1 c1 g6 g0 HUU HXX HR1 HE)
              · skip
                go_wp2_with fail
                have hal : Below w3.heap.size w3 (w3.alloc (.cells #[.int .i64 ef,.int .i64 et,.int .i64 en,.int .i64 ev] 44)):=(Below.refl _ _).alloc (Nat.le_refl _) _
                have HE : Hid (Blk (w3.alloc (.cells #[.int .i64 ef,.int .i64 et,.int .i64 en,.int .i64 ev] 44)) w3.heap.size 44 #[.int .i64 ef,.int .i64 et,.int .i64 en,.int .i64 ev]):=Lib.hid (Blk.new _ _ _)
                replace HUU:=Lib.hid (HUU.out.trans (hal.mono HUU.out.size))
                replace HXX:=Lib.hid (HXX.out.later hal)
                clear hal
                generalize w3.alloc (.cells #[.int .i64 ef,.int .i64 et,.int .i64 en,.int .i64 ev] 44)=v4 at *
                generalize w3.heap.size=g6 at *
                refine And.intro (by first | exact ⟨HXX.out.cell 0,HXX.out.cell 1,HXX.out.cell 2,HXX.out.cell 3⟩ | exact fun _=>⟨HXX.out.cell 0,HXX.out.cell 1,HXX.out.cell 2,HXX.out.cell 3⟩) ?_
                refine wpAnyT_next (i:=0) (by kernel_rfl) rfl ?_
                go_wp2_with fail
                have hal : Below v4.heap.size v4 (v4.alloc (.cells #[] 44)):=(Below.refl _ _).alloc (Nat.le_refl _) _
                have HR1 : Hid (Own wu.heap.size 44 4 ED.enc (v4.alloc (.cells #[] 44)) ⟨some ⟨v4.heap.size,0,none⟩,0,[]⟩):=Lib.hid (Own.lit v4 #[] [] HUU.out.size (by simp) rfl ED.k)
                have HNE : Hid (v4.heap.size≠g6):=Lib.hid (Nat.ne_of_gt HE.out.lt)
                replace HUU:=Lib.hid (HUU.out.trans (hal.mono HUU.out.size))
                replace HXX:=Lib.hid (HXX.out.later hal)
                replace HE:=Lib.hid (HE.out.later hal)
                clear hal
                generalize v4.alloc (.cells #[] 44)=v5 at *
                generalize v4.heap.size=g0 at *
                refine And.intro (by first | exact ⟨HXX.out.cell 0,HXX.out.cell 1,HXX.out.cell 2,HXX.out.cell 3⟩ | exact fun _=>⟨HXX.out.cell 0,HXX.out.cell 1,HXX.out.cell 2,HXX.out.cell 3⟩) ?_
                refine wpAnyT_next (i:=4) (by kernel_rfl) rfl ?_
                have hb2:=HUU.out.size
                refine wpl_append_sl _ rfl (.tmp 64) (.tmp 67) _ rfl Try.underlying22 infoEdge (by omega) ED.k ED.one ⟨some ⟨g0,0,none⟩,0,[]⟩ ⟨some ⟨g,0,none⟩,c,l.take k⟩ rfl (by simp only [htl]; rfl) HR1.out ((HRl.out.below HUU.out).take k) (by simp [maxLen]; omega) (by simp; omega) hb2 ?_
                intro A1 c1 v6 hown hg hAA
                clear hAA
                simp only [List.nil_append] at hown hg
                simp only [List.nil_append,htl]
                have hro : ∀ q,(Value.slice (some ⟨g0,0,none⟩) ([] : List ED).length 0).ownBlock=some q→wu.heap.size≤q:=fun q hq=>(own_row HR1.out q hq).2.1
                replace HUU:=Lib.hid (HUU.out.trans (below_of_grown hg hb2 hro))
                replace HXX:=Lib.hid (HXX.out.grown hg (fun e=>by have:=hro _ e.symm; have:=HXd.out.lt; omega))
                replace HE:=Lib.hid (HE.out.grown hg (fun e=>HNE.out (Option.some.inj (show some g6=some g0 from e)).symm))
                replace HR1:=Lib.hid hown
                clear hown hg hro hb2
                go_wp2_with fail
                refine And.intro (by first | exact ⟨HXX.out.cell 0,HXX.out.cell 1,HXX.out.cell 2,HXX.out.cell 3⟩ | exact fun _=>⟨HXX.out.cell 0,HXX.out.cell 1,HXX.out.cell 2,HXX.out.cell 3⟩) ?_
                exact wpAnyT_listed (by kernel_rfl) (FIN.out v6 A1 c1 g6 g0 HUU HXX HR1 HE)
            · intro W A1 c1 g6 g0 HUU HXX HR1 HE
              refine wpAnyT_next (i:=7) (by kernel_rfl) rfl ?_
              have hb2:=HUU.out.size
              refine wpl_append_sl _ rfl (.tmp 68) (.tmp 70) _ rfl Try.underlying22 infoEdge (by omega) ED.k ED.one ⟨A1,c1,l.take k⟩ ⟨some ⟨g6,0,none⟩,1,[⟨ef,et,en,ev⟩]⟩ (by simp only [htl]; rfl) rfl HR1.out (rd_ed1 HE.out) (by first | (simp [maxLen]; done) | (simp [maxLen]; omega)) (by first | (simp; done) | (simp; omega)) hb2 ?_
              intro A2 c2 w5 hown hg hAA
              clear hAA
              simp only at hown hg
              have hro : ∀ q,(Value.slice A1 (l.take k).length c1).ownBlock=some q→wu.heap.size≤q:=fun q hq=>(own_row HR1.out q hq).2.1
              replace HUU:=Lib.hid (HUU.out.trans (below_of_grown hg hb2 hro))
              replace HXX:=Lib.hid (HXX.out.grown hg (fun e=>by have:=hro _ e.symm; have:=HXd.out.lt; omega))
              have HR2:=Lib.hid hown
              clear hown hg hro hb2 HR1 HE
              have hl2 : (l.take k ++ [(⟨ef,et,en,ev⟩ : ED)]).length≤1001:=by first | (simp; done) | (simp; omega)
              obtain ⟨l1,hl1⟩ : ∃ X,l.take k ++ [(⟨ef,et,en,ev⟩ : ED)]=X:=⟨_,rfl⟩
              rw [hl1] at HR2 hl2 ⊢
              have HL1:=Lib.hid hl1
              clear hl1
              go_wp2_with fail
              refine And.intro (by first | exact ⟨HXX.out.cell 0,HXX.out.cell 1,HXX.out.cell 2,HXX.out.cell 3⟩ | exact fun _=>⟨HXX.out.cell 0,HXX.out.cell 1,HXX.out.cell 2,HXX.out.cell 3⟩) ?_
              refine wpAnyT_next (i:=11) (by kernel_rfl) rfl ?_
              have hb2:=HUU.out.size
              have hrd:=rd_drop (HRl.out.below HUU.out) hkl HA3.out
              refine wpl_append_sl _ rfl (.tmp 71) (.tmp 74) _ rfl Try.underlying22 infoEdge (by omega) ED.k ED.one ⟨A2,c2,l1⟩ ⟨a3,c - k,l.drop k⟩ rfl (by first | (simp only [hdl]; rfl) | (simp only [hdl,Nat.sub_self]; rfl)) HR2.out hrd (by simp [maxLen]; omega) (by simp; omega) hb2 ?_
              intro A3 c3 w6 hown hg hAA
              clear hAA
              simp only at hown hg
              have hro : ∀ q,(Value.slice A2 l1.length c2).ownBlock=some q→wu.heap.size≤q:=fun q hq=>(own_row HR2.out q hq).2.1
              replace HUU:=Lib.hid (HUU.out.trans (below_of_grown hg hb2 hro))
              replace HXX:=Lib.hid (HXX.out.grown hg (fun e=>by have:=hro _ e.symm; have:=HXd.out.lt; omega))
              have HR3:=Lib.hid hown
              clear hown hg hro hb2 HR2
              obtain ⟨l2,hl2⟩ : ∃ X,l1 ++ l.drop k=X:=⟨_,rfl⟩
              rw [hl2] at HR3 ⊢
              have HVL : Hid (V=l2):=Lib.hid (by rw [HVI.out,insE_at,HT2.out,← hl2,← HL1.out]; simp)
              clear hl2
              go_wp2_with fail
              refine And.intro (by first | exact ⟨HXX.out.cell 0,HXX.out.cell 1,HXX.out.cell 2,HXX.out.cell 3⟩ | exact fun _=>⟨HXX.out.cell 0,HXX.out.cell 1,HXX.out.cell 2,HXX.out.cell 3⟩) ?_
              have hHeld:=And.intro (HXX.out.cell 0) (And.intro (HXX.out.cell 1) (And.intro (HXX.out.cell 2) (HXX.out.cell 3)))
              refine wpAnyT_take2 (i:=12) (v:=?_) rfl rfl (by kernel_rfl) (by kernel_rfl) (by kernel_rfl) (by kernel_rfl) (fun _ _ _ h=>h) (Or.inl ⟨by rfl, ?_⟩) (by first | assumption | trivial) ?_
              rotate_left
              · (intro w hSw; (try dsimp only at hSw); go_simp) <;> (with_reducible rfl)
              simp only [List.setIfInBounds_toArray,List.set_cons_zero,List.set_cons_succ]
              clear hHeld
              refine wpAnyT_done (by kernel_rfl) ?_ _
              go_wp2_with fail
              go_ret
              exact ⟨A3,c3,by rw [HVL.out]; rfl,by rw [HVL.out]; exact HR3.out.mono hbu,HBd.out.trans (HUU.out.mono hbu)⟩
      · have hke : k=l.length:=by omega
        subst hke
        have HT2:=Lib.hid (tw_end HT.out)
        have HUL:=HU
        have hlt' : ¬ (l.length : Int)<(l.length : Int):=by omega
        rcases HOu.out.form with ⟨h1,h2,h3⟩ | ⟨g,h1,hg1,hg2,_⟩
        · simp only at h1 h2 h3
          subst h1 h2 h3
          go_wp2_with fail
          refine wp_region_T (fun W=>W.cell? ⟨ge,0,none⟩=some (.int .i64 ef)∧W.cell? ⟨ge,1,none⟩=some (.int .i64 et)) (fun _=>false) (by kernel_rfl) ⟨y0,y1⟩ (fun hHeld=>?_)
          refine wpAnyT_take2 (i:=0) (v:=?_) rfl rfl (by kernel_rfl) (by kernel_rfl) (by kernel_rfl) (by kernel_rfl) (fun _ _ _ h=>h) (Or.inl ⟨by rfl, ?_⟩) (by first | assumption | trivial) ?_
          rotate_left
          · (intro w hSw; (try dsimp only at hSw); go_simp) <;> (with_reducible rfl)
          simp only [List.setIfInBounds_toArray,List.set_cons_zero,List.set_cons_succ]
          refine wpAnyT_take2 (i:=1) (v:=?_) rfl rfl (by kernel_rfl) (by kernel_rfl) (by kernel_rfl) (by kernel_rfl) (fun _ _ _ h=>h) (Or.inl ⟨by rfl, ?_⟩) (by first | assumption | trivial) ?_
          rotate_left
          · (intro w hSw; (try dsimp only at hSw); go_simp) <;> (with_reducible rfl)
          simp only [List.setIfInBounds_toArray,List.set_cons_zero,List.set_cons_succ]
          refine wpAnyT_next (i:=2) (by kernel_rfl) rfl ?_
          go_wp2_with fail
          refine And.intro (by first | exact hHeld | exact fun _=>hHeld) ?_
          refine wpAnyT_take2 (i:=3) (v:=.bool false) rfl rfl (by kernel_rfl) (by kernel_rfl) (by kernel_rfl) (by kernel_rfl) (fun _ _ _ h=>h) (Or.inl ⟨by rfl, ?_⟩) (by first | assumption | trivial) ?_
          · (intro w hSw; (try dsimp only at hSw); go_simp) <;> (first | (with_reducible rfl) | assumption | (simp; done) | (simp [*]; done) | (simp; omega))
          simp only [List.setIfInBounds_toArray,List.set_cons_zero,List.set_cons_succ]
          refine wpAnyT_take2 (i:=4) (v:=?_) rfl rfl (by kernel_rfl) (by kernel_rfl) (by kernel_rfl) (by kernel_rfl) (fun _ _ _ h=>h) (Or.inl ⟨by rfl, ?_⟩) (by first | assumption | trivial) ?_
          rotate_left
          · (intro w hSw; (try dsimp only at hSw); go_simp) <;> (with_reducible rfl)
          simp only [List.setIfInBounds_toArray,List.set_cons_zero,List.set_cons_succ]
          refine wpAnyT_take2 (i:=5) (v:=undef) rfl rfl (by kernel_rfl) (by kernel_rfl) (by kernel_rfl) (by kernel_rfl) (fun _ _ _ h=>h) (Or.inr ⟨by rfl,rfl⟩) (by first | assumption | trivial) ?_
          simp only [List.setIfInBounds_toArray,List.set_cons_zero,List.set_cons_succ]
          refine wpAnyT_take2 (i:=6) (v:=undef) rfl rfl (by kernel_rfl) (by kernel_rfl) (by kernel_rfl) (by kernel_rfl) (fun _ _ _ h=>h) (Or.inr ⟨by rfl,rfl⟩) (by first | assumption | trivial) ?_
          simp only [List.setIfInBounds_toArray,List.set_cons_zero,List.set_cons_succ]
          refine wpAnyT_take2 (i:=7) (v:=undef) rfl rfl (by kernel_rfl) (by kernel_rfl) (by kernel_rfl) (by kernel_rfl) (fun _ _ _ h=>h) (Or.inr ⟨by rfl,rfl⟩) (by first | assumption | trivial) ?_
          simp only [List.setIfInBounds_toArray,List.set_cons_zero,List.set_cons_succ]
          refine wpAnyT_take2 (i:=8) (v:=undef) rfl rfl (by kernel_rfl) (by kernel_rfl) (by kernel_rfl) (by kernel_rfl) (fun _ _ _ h=>h) (Or.inr ⟨by rfl,rfl⟩) (by first | assumption | trivial) ?_
          simp only [List.setIfInBounds_toArray,List.set_cons_zero,List.set_cons_succ]
          refine wpAnyT_take2 (i:=9) (v:=undef) rfl rfl (by kernel_rfl) (by kernel_rfl) (by kernel_rfl) (by kernel_rfl) (fun _ _ _ h=>h) (Or.inr ⟨by rfl,rfl⟩) (by first | assumption | trivial) ?_
          simp only [List.setIfInBounds_toArray,List.set_cons_zero,List.set_cons_succ]
          refine wpAnyT_take2 (i:=10) (v:=undef) rfl rfl (by kernel_rfl) (by kernel_rfl) (by kernel_rfl) (by kernel_rfl) (fun _ _ _ h=>h) (Or.inr ⟨by rfl,rfl⟩) (by first | assumption | trivial) ?_
          simp only [List.setIfInBounds_toArray,List.set_cons_zero,List.set_cons_succ]
          refine wpAnyT_take2 (i:=11) (v:=undef) rfl rfl (by kernel_rfl) (by kernel_rfl) (by kernel_rfl) (by kernel_rfl) (fun _ _ _ h=>h) (Or.inr ⟨by rfl,rfl⟩) (by first | assumption | trivial) ?_
          simp only [List.setIfInBounds_toArray,List.set_cons_zero,List.set_cons_succ]
          refine wpAnyT_take2 (i:=12) (v:=undef) rfl rfl (by kernel_rfl) (by kernel_rfl) (by kernel_rfl) (by kernel_rfl) (fun _ _ _ h=>h) (Or.inr ⟨by rfl,rfl⟩) (by first | assumption | trivial) ?_
          simp only [List.setIfInBounds_toArray,List.set_cons_zero,List.set_cons_succ]
          refine wpAnyT_take2 (i:=13) (v:=undef) rfl rfl (by kernel_rfl) (by kernel_rfl) (by kernel_rfl) (by kernel_rfl) (fun _ _ _ h=>h) (Or.inr ⟨by rfl,rfl⟩) (by first | assumption | trivial) ?_
          simp only [List.setIfInBounds_toArray,List.set_cons_zero,List.set_cons_succ]
          refine wpAnyT_take2 (i:=14) (v:=undef) rfl rfl (by kernel_rfl) (by kernel_rfl) (by kernel_rfl) (by kernel_rfl) (fun _ _ _ h=>h) (Or.inr ⟨by rfl,rfl⟩) (by first | assumption | trivial) ?_
          simp only [List.setIfInBounds_toArray,List.set_cons_zero,List.set_cons_succ]
          refine wpAnyT_take2 (i:=15) (v:=undef) rfl rfl (by kernel_rfl) (by kernel_rfl) (by kernel_rfl) (by kernel_rfl) (fun _ _ _ h=>h) (Or.inr ⟨by rfl,rfl⟩) (by first | assumption | trivial) ?_
          simp only [List.setIfInBounds_toArray,List.set_cons_zero,List.set_cons_succ]
          refine wpAnyT_take2 (i:=16) (v:=undef) rfl rfl (by kernel_rfl) (by kernel_rfl) (by kernel_rfl) (by kernel_rfl) (fun _ _ _ h=>h) (Or.inr ⟨by rfl,rfl⟩) (by first | assumption | trivial) ?_
          simp only [List.setIfInBounds_toArray,List.set_cons_zero,List.set_cons_succ]
          refine wpAnyT_take2 (i:=17) (v:=undef) rfl rfl (by kernel_rfl) (by kernel_rfl) (by kernel_rfl) (by kernel_rfl) (fun _ _ _ h=>h) (Or.inr ⟨by rfl,rfl⟩) (by first | assumption | trivial) ?_
          simp only [List.setIfInBounds_toArray,List.set_cons_zero,List.set_cons_succ]
          refine wpAnyT_take2 (i:=18) (v:=undef) rfl rfl (by kernel_rfl) (by kernel_rfl) (by kernel_rfl) (by kernel_rfl) (fun _ _ _ h=>h) (Or.inr ⟨by rfl,rfl⟩) (by first | assumption | trivial) ?_
          simp only [List.setIfInBounds_toArray,List.set_cons_zero,List.set_cons_succ]
          refine wpAnyT_take2 (i:=19) (v:=undef) rfl rfl (by kernel_rfl) (by kernel_rfl) (by kernel_rfl) (by kernel_rfl) (fun _ _ _ h=>h) (Or.inr ⟨by rfl,rfl⟩) (by first | assumption | trivial) ?_
          simp only [List.setIfInBounds_toArray,List.set_cons_zero,List.set_cons_succ]
          refine wpAnyT_take2 (i:=20) (v:=undef) rfl rfl (by kernel_rfl) (by kernel_rfl) (by kernel_rfl) (by kernel_rfl) (fun _ _ _ h=>h) (Or.inr ⟨by rfl,rfl⟩) (by first | assumption | trivial) ?_
          simp only [List.setIfInBounds_toArray,List.set_cons_zero,List.set_cons_succ]
          refine wpAnyT_take2 (i:=21) (v:=undef) rfl rfl (by kernel_rfl) (by kernel_rfl) (by kernel_rfl) (by kernel_rfl) (fun _ _ _ h=>h) (Or.inr ⟨by rfl,rfl⟩) (by first | assumption | trivial) ?_
          simp only [List.setIfInBounds_toArray,List.set_cons_zero,List.set_cons_succ]
          refine wpAnyT_take2 (i:=22) (v:=undef) rfl rfl (by kernel_rfl) (by kernel_rfl) (by kernel_rfl) (by kernel_rfl) (fun _ _ _ h=>h) (Or.inr ⟨by rfl,rfl⟩) (by first | assumption | trivial) ?_
          simp only [List.setIfInBounds_toArray,List.set_cons_zero,List.set_cons_succ]
          refine wpAnyT_take2 (i:=23) (v:=undef) rfl rfl (by kernel_rfl) (by kernel_rfl) (by kernel_rfl) (by kernel_rfl) (fun _ _ _ h=>h) (Or.inr ⟨by rfl,rfl⟩) (by first | assumption | trivial) ?_
          simp only [List.setIfInBounds_toArray,List.set_cons_zero,List.set_cons_succ]
          refine wpAnyT_take2 (i:=24) (v:=undef) rfl rfl (by kernel_rfl) (by kernel_rfl) (by kernel_rfl) (by kernel_rfl) (fun _ _ _ h=>h) (Or.inr ⟨by rfl,rfl⟩) (by first | assumption | trivial) ?_
          simp only [List.setIfInBounds_toArray,List.set_cons_zero,List.set_cons_succ]
          refine wpAnyT_take2 (i:=25) (v:=undef) rfl rfl (by kernel_rfl) (by kernel_rfl) (by kernel_rfl) (by kernel_rfl) (fun _ _ _ h=>h) (Or.inr ⟨by rfl,rfl⟩) (by first | assumption | trivial) ?_
          simp only [List.setIfInBounds_toArray,List.set_cons_zero,List.set_cons_succ]
          refine wpAnyT_take2 (i:=26) (v:=undef) rfl rfl (by kernel_rfl) (by kernel_rfl) (by kernel_rfl) (by kernel_rfl) (fun _ _ _ h=>h) (Or.inr ⟨by rfl,rfl⟩) (by first | assumption | trivial) ?_
          simp only [List.setIfInBounds_toArray,List.set_cons_zero,List.set_cons_succ]
          refine wpAnyT_take2 (i:=27) (v:=undef) rfl rfl (by kernel_rfl) (by kernel_rfl) (by kernel_rfl) (by kernel_rfl) (fun _ _ _ h=>h) (Or.inr ⟨by rfl,rfl⟩) (by first | assumption | trivial) ?_
          simp only [List.setIfInBounds_toArray,List.set_cons_zero,List.set_cons_succ]
          refine wpAnyT_take2 (i:=28) (v:=undef) rfl rfl (by kernel_rfl) (by kernel_rfl) (by kernel_rfl) (by kernel_rfl) (fun _ _ _ h=>h) (Or.inr ⟨by rfl,rfl⟩) (by first | assumption | trivial) ?_
          simp only [List.setIfInBounds_toArray,List.set_cons_zero,List.set_cons_succ]
          refine wpAnyT_take2 (i:=29) (v:=undef) rfl rfl (by kernel_rfl) (by kernel_rfl) (by kernel_rfl) (by kernel_rfl) (fun _ _ _ h=>h) (Or.inr ⟨by rfl,rfl⟩) (by first | assumption | trivial) ?_
          simp only [List.setIfInBounds_toArray,List.set_cons_zero,List.set_cons_succ]
          refine wpAnyT_take2 (i:=30) (v:=undef) rfl rfl (by kernel_rfl) (by kernel_rfl) (by kernel_rfl) (by kernel_rfl) (fun _ _ _ h=>h) (Or.inr ⟨by rfl,rfl⟩) (by first | assumption | trivial) ?_
          simp only [List.setIfInBounds_toArray,List.set_cons_zero,List.set_cons_succ]
          refine wpAnyT_take2 (i:=31) (v:=undef) rfl rfl (by kernel_rfl) (by kernel_rfl) (by kernel_rfl) (by kernel_rfl) (fun _ _ _ h=>h) (Or.inr ⟨by rfl,rfl⟩) (by first | assumption | trivial) ?_
          simp only [List.setIfInBounds_toArray,List.set_cons_zero,List.set_cons_succ]
          refine wpAnyT_take2 (i:=32) (v:=undef) rfl rfl (by kernel_rfl) (by kernel_rfl) (by kernel_rfl) (by kernel_rfl) (fun _ _ _ h=>h) (Or.inr ⟨by rfl,rfl⟩) (by first | assumption | trivial) ?_
          simp only [List.setIfInBounds_toArray,List.set_cons_zero,List.set_cons_succ]
          refine wpAnyT_take2 (i:=33) (v:=?_) rfl rfl (by kernel_rfl) (by kernel_rfl) (by kernel_rfl) (by kernel_rfl) (fun _ _ _ h=>h) (Or.inl ⟨by rfl, ?_⟩) (by first | assumption | trivial) ?_
          rotate_left
          · (intro w hSw; (try dsimp only at hSw); go_simp) <;> (with_reducible rfl)
          simp only [List.setIfInBounds_toArray,List.set_cons_zero,List.set_cons_succ]
          refine wpAnyT_done (by kernel_rfl) ?_ _
          clear hHeld
          go_wp2_with fail
          have HUL:=Lib.hid (Below.drew HU.out)
          have HXd:=Lib.hid HXu.out.drew
          have HBd : Hid (Below base w wr.drew):=Lib.hid (HB2.out.trans (HUL.out.mono hbs2))
          have hbu : base≤wr.heap.size:=Nat.le_trans hbs2 HUL.out.size
          have hsz : wr.heap.size=(wr.drew).heap.size:=rfl
          rw [hsz] at hbu
          clear hsz HU HUL HXu HOu HX2 HO2 HB2 HT HBS y0 y1 y2 y3 yf yz
          obtain ⟨wu,hwu⟩ : ∃ x,x=wr.drew:=⟨_,rfl⟩
          rw [← hwu] at HXd HBd hbu ⊢
          clear hwu
          obtain ⟨y0,y1,y2,y3,yf,yz⟩:=HXd.out.b4
          refine wp_region_T (fun W=>W.cell? ⟨ge,0,none⟩=some (.int .i64 ef)∧W.cell? ⟨ge,1,none⟩=some (.int .i64 et)∧W.cell? ⟨ge,2,none⟩=some (.int .i64 en)∧W.cell? ⟨ge,3,none⟩=some (.int .i64 ev)) (fun _=>false) (by kernel_rfl) ⟨y0,y1,y2,y3⟩ (fun hHeld=>?_)
          refine wpAnyT_take2 (i:=1) (v:=?_) rfl rfl (by kernel_rfl) (by kernel_rfl) (by kernel_rfl) (by kernel_rfl) (fun _ _ _ h=>h) (Or.inl ⟨by rfl, ?_⟩) (by first | assumption | trivial) ?_
          rotate_left
          · (intro w hSw; (try dsimp only at hSw); go_simp) <;> (with_reducible rfl)
          simp only [List.setIfInBounds_toArray,List.set_cons_zero,List.set_cons_succ]
          refine wpAnyT_take2 (i:=2) (v:=?_) rfl rfl (by kernel_rfl) (by kernel_rfl) (by kernel_rfl) (by kernel_rfl) (fun _ _ _ h=>h) (Or.inl ⟨by rfl, ?_⟩) (by first | assumption | trivial) ?_
          rotate_left
          · (intro w hSw; (try dsimp only at hSw); go_simp) <;> (with_reducible rfl)
          simp only [List.setIfInBounds_toArray,List.set_cons_zero,List.set_cons_succ]
          refine wpAnyT_take2 (i:=3) (v:=?_) rfl rfl (by kernel_rfl) (by kernel_rfl) (by kernel_rfl) (by kernel_rfl) (fun _ _ _ h=>h) (Or.inl ⟨by rfl, ?_⟩) (by first | assumption | trivial) ?_
          rotate_left
          · (intro w hSw; (try dsimp only at hSw); go_simp) <;> (with_reducible rfl)
          simp only [List.setIfInBounds_toArray,List.set_cons_zero,List.set_cons_succ]
          refine wpAnyT_take2 (i:=5) (v:=?_) rfl rfl (by kernel_rfl) (by kernel_rfl) (by kernel_rfl) (by kernel_rfl) (fun _ _ _ h=>h) (Or.inl ⟨by rfl, ?_⟩) (by first | assumption | trivial) ?_
          rotate_left
          · (intro w hSw; (try dsimp only at hSw); go_simp) <;> (with_reducible rfl)
          simp only [List.setIfInBounds_toArray,List.set_cons_zero,List.set_cons_succ]
          refine wpAnyT_take2 (i:=8) (v:=?_) rfl rfl (by kernel_rfl) (by kernel_rfl) (by kernel_rfl) (by kernel_rfl) (fun _ _ _ h=>h) (Or.inl ⟨by rfl, ?_⟩) (by first | assumption | trivial) ?_
          rotate_left
          · (intro w hSw; (try dsimp only at hSw); go_simp) <;> (with_reducible rfl)
          simp only [List.setIfInBounds_toArray,List.set_cons_zero,List.set_cons_succ]
          refine wpAnyT_take2 (i:=9) (v:=?_) rfl rfl (by kernel_rfl) (by kernel_rfl) (by kernel_rfl) (by kernel_rfl) (fun _ _ _ h=>h) (Or.inl ⟨by rfl, ?_⟩) (by first | assumption | trivial) ?_
          rotate_left
          · (intro w hSw; (try dsimp only at hSw); go_simp) <;> (with_reducible rfl)
          simp only [List.setIfInBounds_toArray,List.set_cons_zero,List.set_cons_succ]
          refine wpAnyT_take2 (i:=10) (v:=?_) rfl rfl (by kernel_rfl) (by kernel_rfl) (by kernel_rfl) (by kernel_rfl) (fun _ _ _ h=>h) (Or.inl ⟨by rfl, ?_⟩) (by first | assumption | trivial) ?_
          rotate_left
          · (intro w hSw; (try dsimp only at hSw); go_simp) <;> (with_reducible rfl)
          simp only [List.setIfInBounds_toArray,List.set_cons_zero,List.set_cons_succ]
          try (clear h1)
          try (clear h2)
          try (clear h3)
          try (clear hlt)
          try (clear hlt')
          clear hHeld y0 y1 y2 y3 yf yz
          have HUU : Hid (Below wu.heap.size wu wu.drew):=Lib.hid (Below.drew (Below.refl _ _))
          have HXX:=Lib.hid HXd.out.drew
          obtain ⟨w3,hw3⟩ : ∃ x,x=wu.drew:=⟨_,rfl⟩
          rw [← hw3] at HUU HXX ⊢
          clear hw3
          apply cutT
          · intro fin0
            have FIN:=Lib.hid fin0
            clear fin0
            refine wpAnyT_two (i:=0) (j:=6) (by kernel_rfl) rfl rfl ?_ ?_
            · skip
              go_wp2_with fail
              have hal : Below w3.heap.size w3 (w3.alloc (.cells #[] 44)):=(Below.refl _ _).alloc (Nat.le_refl _) _
              have HR1 : Hid (Own wu.heap.size 44 4 ED.enc (w3.alloc (.cells #[] 44)) ⟨some ⟨w3.heap.size,0,none⟩,0,[]⟩):=Lib.hid (Own.lit w3 #[] [] HUU.out.size (by simp) rfl ED.k)
              replace HUU:=Lib.hid (HUU.out.trans (hal.mono HUU.out.size))
              replace HXX:=Lib.hid (HXX.out.later hal)
              clear hal
              generalize w3.alloc (.cells #[] 44)=v4 at *
              generalize w3.heap.size=g0 at *
              refine And.intro (by first | exact ⟨HXX.out.cell 0,HXX.out.cell 1,HXX.out.cell 2,HXX.out.cell 3⟩ | exact fun _=>⟨HXX.out.cell 0,HXX.out.cell 1,HXX.out.cell 2,HXX.out.cell 3⟩) ?_
              refine wpAnyT_two (i:=4) (j:=6) (by kernel_rfl) rfl rfl ?_ ?_
              · skip
                have hb2:=HUU.out.size
                refine wpl_append_sl _ rfl (.tmp 64) (.tmp 67) _ rfl Try.underlying22 infoEdge (by omega) ED.k ED.one ⟨some ⟨g0,0,none⟩,0,[]⟩ ⟨none,0,[]⟩ rfl rfl HR1.out (Rd.nil (fun _=>True) _ _ _) (by simp [maxLen]) (by simp) hb2 ?_
                intro A1 c1 v5 hown hg hAA
                clear hAA
                simp only [List.nil_append] at hown hg
                simp only [List.nil_append,List.length_nil]
                have hro : ∀ q,(Value.slice (some ⟨g0,0,none⟩) ([] : List ED).length 0).ownBlock=some q→wu.heap.size≤q:=fun q hq=>(own_row HR1.out q hq).2.1
                replace HUU:=Lib.hid (HUU.out.trans (below_of_grown hg hb2 hro))
                replace HXX:=Lib.hid (HXX.out.grown hg (fun e=>by have:=hro _ e.symm; have:=HXd.out.lt; omega))
                replace HR1:=Lib.hid hown
                clear hown hg hro hb2
                go_wp2_with fail
                refine And.intro (by first | exact ⟨HXX.out.cell 0,HXX.out.cell 1,HXX.out.cell 2,HXX.out.cell 3⟩ | exact fun _=>⟨HXX.out.cell 0,HXX.out.cell 1,HXX.out.cell 2,HXX.out.cell 3⟩) ?_
                refine wpAnyT_next (i:=6) (by kernel_rfl) rfl ?_
                go_wp2_with fail
                have hal : Below v5.heap.size v5 (v5.alloc (.cells #[.int .i64 ef,.int .i64 et,.int .i64 en,.int .i64 ev] 44)):=(Below.refl _ _).alloc (Nat.le_refl _) _
                have HE : Hid (Blk (v5.alloc (.cells #[.int .i64 ef,.int .i64 et,.int .i64 en,.int .i64 ev] 44)) v5.heap.size 44 #[.int .i64 ef,.int .i64 et,.int .i64 en,.int .i64 ev]):=Lib.hid (Blk.new _ _ _)
                replace HUU:=Lib.hid (HUU.out.trans (hal.mono HUU.out.size))
                replace HXX:=Lib.hid (HXX.out.later hal)
                replace HR1:=Lib.hid (HR1.out.below hal)
                clear hal
                generalize v5.alloc (.cells #[.int .i64 ef,.int .i64 et,.int .i64 en,.int .i64 ev] 44)=v6 at *
                generalize v5.heap.size=g6 at *
                refine And.intro (by first | exact ⟨HXX.out.cell 0,HXX.out.cell 1,HXX.out.cell 2,HXX.out.cell 3⟩ | exact fun _=>⟨HXX.out.cell 0,HXX.out.cell 1,HXX.out.cell 2,HXX.out.cell 3⟩) ?_
                revert HE
                revert HR1
                revert HXX
                revert HUU
                revert g0
                revert g6
                revert c1
                revert A1
                revert v6
                exact FIN.out
              · skip
                go_wp2_with fail
                have hal : Below v4.heap.size v4 (v4.alloc (.cells #[.int .i64 ef,.int .i64 et,.int .i64 en,.int .i64 ev] 44)):=(Below.refl _ _).alloc (Nat.le_refl _) _
                have HE : Hid (Blk (v4.alloc (.cells #[.int .i64 ef,.int .i64 et,.int .i64 en,.int .i64 ev] 44)) v4.heap.size 44 #[.int .i64 ef,.int .i64 et,.int .i64 en,.int .i64 ev]):=Lib.hid (Blk.new _ _ _)
                have HNE : Hid (g0≠v4.heap.size):=Lib.hid (Nat.ne_of_lt (HR1.out.bound g0 rfl))
                replace HUU:=Lib.hid (HUU.out.trans (hal.mono HUU.out.size))
                replace HXX:=Lib.hid (HXX.out.later hal)
                replace HR1:=Lib.hid (HR1.out.below hal)
                clear hal
                generalize v4.alloc (.cells #[.int .i64 ef,.int .i64 et,.int .i64 en,.int .i64 ev] 44)=v5 at *
                generalize v4.heap.size=g6 at *
                refine And.intro (by first | exact ⟨HXX.out.cell 0,HXX.out.cell 1,HXX.out.cell 2,HXX.out.cell 3⟩ | exact fun _=>⟨HXX.out.cell 0,HXX.out.cell 1,HXX.out.cell 2,HXX.out.cell 3⟩) ?_
                refine wpAnyT_next (i:=4) (by kernel_rfl) rfl ?_
                have hb2:=HUU.out.size
                refine wpl_append_sl _ rfl (.tmp 64) (.tmp 67) _ rfl Try.underlying22 infoEdge (by omega) ED.k ED.one ⟨some ⟨g0,0,none⟩,0,[]⟩ ⟨none,0,[]⟩ rfl rfl HR1.out (Rd.nil (fun _=>True) _ _ _) (by simp [maxLen]) (by simp) hb2 ?_
                intro A1 c1 v6 hown hg hAA
                clear hAA
                simp only [List.nil_append] at hown hg
                simp only [List.nil_append,List.length_nil]
                have hro : ∀ q,(Value.slice (some ⟨g0,0,none⟩) ([] : List ED).length 0).ownBlock=some q→wu.heap.size≤q:=fun q hq=>(own_row HR1.out q hq).2.1
                replace HUU:=Lib.hid (HUU.out.trans (below_of_grown hg hb2 hro))
                replace HXX:=Lib.hid (HXX.out.grown hg (fun e=>by have:=hro _ e.symm; have:=HXd.out.lt; omega))
                replace HE:=Lib.hid (HE.out.grown hg (fun e=>HNE.out (Option.some.inj (show some g6=some g0 from e)).symm))
                replace HR1:=Lib.hid hown
                clear hown hg hro hb2
                go_wp2_with fail
                refine And.intro (by first | exact ⟨HXX.out.cell 0,HXX.out.cell 1,HXX.out.cell 2,HXX.out.cell 3⟩ | exact fun _=>⟨HXX.out.cell 0,HXX.out.cell 1,HXX.out.cell 2,HXX.out.cell 3⟩) ?_
                exact wpAnyT_listed (by kernel_rfl) (FIN.out v6 A1 c1 g6 g0 HUU HXX HR1 HE)
            · skip
              go_wp2_with fail
              have hal : Below w3.heap.size w3 (w3.alloc (.cells #[.int .i64 ef,.int .i64 et,.int .i64 en,.int .i64 ev] 44)):=(Below.refl _ _).alloc (Nat.le_refl _) _
              have HE : Hid (Blk (w3.alloc (.cells #[.int .i64 ef,.int .i64 et,.int .i64 en,.int .i64 ev] 44)) w3.heap.size 44 #[.int .i64 ef,.int .i64 et,.int .i64 en,.int .i64 ev]):=Lib.hid (Blk.new _ _ _)
              replace HUU:=Lib.hid (HUU.out.trans (hal.mono HUU.out.size))
              replace HXX:=Lib.hid (HXX.out.later hal)
              clear hal
              generalize w3.alloc (.cells #[.int .i64 ef,.int .i64 et,.int .i64 en,.int .i64 ev] 44)=v4 at *
              generalize w3.heap.size=g6 at *
              refine And.intro (by first | exact ⟨HXX.out.cell 0,HXX.out.cell 1,HXX.out.cell 2,HXX.out.cell 3⟩ | exact fun _=>⟨HXX.out.cell 0,HXX.out.cell 1,HXX.out.cell 2,HXX.out.cell 3⟩) ?_
              refine wpAnyT_next (i:=0) (by kernel_rfl) rfl ?_
              go_wp2_with fail
              have hal : Below v4.heap.size v4 (v4.alloc (.cells #[] 44)):=(Below.refl _ _).alloc (Nat.le_refl _) _
              have HR1 : Hid (Own wu.heap.size 44 4 ED.enc (v4.alloc (.cells #[] 44)) ⟨some ⟨v4.heap.size,0,none⟩,0,[]⟩):=Lib.hid (Own.lit v4 #[] [] HUU.out.size (by simp) rfl ED.k)
              have HNE : Hid (v4.heap.size≠g6):=Lib.hid (Nat.ne_of_gt HE.out.lt)
              replace HUU:=Lib.hid (HUU.out.trans (hal.mono HUU.out.size))
              replace HXX:=Lib.hid (HXX.out.later hal)
              replace HE:=Lib.hid (HE.out.later hal)
              clear hal
              generalize v4.alloc (.cells #[] 44)=v5 at *
              generalize v4.heap.size=g0 at *
              refine And.intro (by first | exact ⟨HXX.out.cell 0,HXX.out.cell 1,HXX.out.cell 2,HXX.out.cell 3⟩ | exact fun _=>⟨HXX.out.cell 0,HXX.out.cell 1,HXX.out.cell 2,HXX.out.cell 3⟩) ?_
              refine wpAnyT_next (i:=4) (by kernel_rfl) rfl ?_
              have hb2:=HUU.out.size
              refine wpl_append_sl _ rfl (.tmp 64) (.tmp 67) _ rfl Try.underlying22 infoEdge (by omega) ED.k ED.one ⟨some ⟨g0,0,none⟩,0,[]⟩ ⟨none,0,[]⟩ rfl rfl HR1.out (Rd.nil (fun _=>True) _ _ _) (by simp [maxLen]) (by simp) hb2 ?_
              intro A1 c1 v6 hown hg hAA
              clear hAA
              simp only [List.nil_append] at hown hg
              simp only [List.nil_append,List.length_nil]
              have hro : ∀ q,(Value.slice (some ⟨g0,0,none⟩) ([] : List ED).length 0).ownBlock=some q→wu.heap.size≤q:=fun q hq=>(own_row HR1.out q hq).2.1
              replace HUU:=Lib.hid (HUU.out.trans (below_of_grown hg hb2 hro))
              replace HXX:=Lib.hid (HXX.out.grown hg (fun e=>by have:=hro _ e.symm; have:=HXd.out.lt; omega))
              replace HE:=Lib.hid (HE.out.grown hg (fun e=>HNE.out (Option.some.inj (show some g6=some g0 from e)).symm))
              replace HR1:=Lib.hid hown
              clear hown hg hro hb2
              go_wp2_with fail
              refine And.intro (by first | exact ⟨HXX.out.cell 0,HXX.out.cell 1,HXX.out.cell 2,HXX.out.cell 3⟩ | exact fun _=>⟨HXX.out.cell 0,HXX.out.cell 1,HXX.out.cell 2,HXX.out.cell 3⟩) ?_
              exact wpAnyT_listed (by kernel_rfl) (FIN.out v6 A1 c1 g6 g0 HUU HXX HR1 HE)
          · intro W A1 c1 g6 g0 HUU HXX HR1 HE
            refine wpAnyT_next (i:=7) (by kernel_rfl) rfl ?_
            have hb2:=HUU.out.size
            refine wpl_append_sl _ rfl (.tmp 68) (.tmp 70) _ rfl Try.underlying22 infoEdge (by omega) ED.k ED.one ⟨A1,c1,([] : List ED)⟩ ⟨some ⟨g6,0,none⟩,1,[⟨ef,et,en,ev⟩]⟩ rfl rfl HR1.out (rd_ed1 HE.out) (by first | (simp [maxLen]; done) | (simp [maxLen]; omega)) (by first | (simp; done) | (simp; omega)) hb2 ?_
            intro A2 c2 w5 hown hg hAA
            clear hAA
            simp only at hown hg
            have hro : ∀ q,(Value.slice A1 (([] : List ED)).length c1).ownBlock=some q→wu.heap.size≤q:=fun q hq=>(own_row HR1.out q hq).2.1
            replace HUU:=Lib.hid (HUU.out.trans (below_of_grown hg hb2 hro))
            replace HXX:=Lib.hid (HXX.out.grown hg (fun e=>by have:=hro _ e.symm; have:=HXd.out.lt; omega))
            have HR2:=Lib.hid hown
            clear hown hg hro hb2 HR1 HE
            have hl2 : (([] : List ED) ++ [(⟨ef,et,en,ev⟩ : ED)]).length≤1001:=by first | (simp; done) | (simp; omega)
            obtain ⟨l1,hl1⟩ : ∃ X,([] : List ED) ++ [(⟨ef,et,en,ev⟩ : ED)]=X:=⟨_,rfl⟩
            rw [hl1] at HR2 hl2 ⊢
            have HL1:=Lib.hid hl1
            clear hl1
            go_wp2_with fail
            refine And.intro (by first | exact ⟨HXX.out.cell 0,HXX.out.cell 1,HXX.out.cell 2,HXX.out.cell 3⟩ | exact fun _=>⟨HXX.out.cell 0,HXX.out.cell 1,HXX.out.cell 2,HXX.out.cell 3⟩) ?_
            refine wpAnyT_next (i:=11) (by kernel_rfl) rfl ?_
            have hb2:=HUU.out.size
            refine wpl_append_sl _ rfl (.tmp 71) (.tmp 74) _ rfl Try.underlying22 infoEdge (by omega) ED.k ED.one ⟨A2,c2,l1⟩ ⟨none,0,[]⟩ rfl rfl HR2.out (Rd.nil (fun _=>True) _ _ _) (by simp [maxLen]; omega) (by simp; omega) hb2 ?_
            intro A3 c3 w6 hown hg hAA
            clear hAA
            simp only at hown hg
            have hro : ∀ q,(Value.slice A2 l1.length c2).ownBlock=some q→wu.heap.size≤q:=fun q hq=>(own_row HR2.out q hq).2.1
            replace HUU:=Lib.hid (HUU.out.trans (below_of_grown hg hb2 hro))
            replace HXX:=Lib.hid (HXX.out.grown hg (fun e=>by have:=hro _ e.symm; have:=HXd.out.lt; omega))
            have HR3:=Lib.hid hown
            clear hown hg hro hb2 HR2
            obtain ⟨l2,hl2⟩ : ∃ X,l1 ++ ([] : List ED)=X:=⟨_,rfl⟩
            rw [hl2] at HR3 ⊢
            have HVL : Hid (V=l2):=Lib.hid (by rw [HVI.out,insE_at,HT2.out,← hl2,← HL1.out]; simp)
            clear hl2
            go_wp2_with fail
            refine And.intro (by first | exact ⟨HXX.out.cell 0,HXX.out.cell 1,HXX.out.cell 2,HXX.out.cell 3⟩ | exact fun _=>⟨HXX.out.cell 0,HXX.out.cell 1,HXX.out.cell 2,HXX.out.cell 3⟩) ?_
            have hHeld:=And.intro (HXX.out.cell 0) (And.intro (HXX.out.cell 1) (And.intro (HXX.out.cell 2) (HXX.out.cell 3)))
            refine wpAnyT_take2 (i:=12) (v:=?_) rfl rfl (by kernel_rfl) (by kernel_rfl) (by kernel_rfl) (by kernel_rfl) (fun _ _ _ h=>h) (Or.inl ⟨by rfl, ?_⟩) (by first | assumption | trivial) ?_
            rotate_left
            · (intro w hSw; (try dsimp only at hSw); go_simp) <;> (with_reducible rfl)
            simp only [List.setIfInBounds_toArray,List.set_cons_zero,List.set_cons_succ]
            clear hHeld
            refine wpAnyT_done (by kernel_rfl) ?_ _
            go_wp2_with fail
            go_ret
            exact ⟨A3,c3,by rw [HVL.out]; rfl,by rw [HVL.out]; exact HR3.out.mono hbu,HBd.out.trans (HUU.out.mono hbu)⟩
        · simp only at h1
          subst h1
          go_wp2_with fail
          refine wp_region_T (fun W=>W.cell? ⟨ge,0,none⟩=some (.int .i64 ef)∧W.cell? ⟨ge,1,none⟩=some (.int .i64 et)) (fun _=>false) (by kernel_rfl) ⟨y0,y1⟩ (fun hHeld=>?_)
          refine wpAnyT_take2 (i:=0) (v:=?_) rfl rfl (by kernel_rfl) (by kernel_rfl) (by kernel_rfl) (by kernel_rfl) (fun _ _ _ h=>h) (Or.inl ⟨by rfl, ?_⟩) (by first | assumption | trivial) ?_
          rotate_left
          · (intro w hSw; (try dsimp only at hSw); go_simp) <;> (with_reducible rfl)
          simp only [List.setIfInBounds_toArray,List.set_cons_zero,List.set_cons_succ]
          refine wpAnyT_take2 (i:=1) (v:=?_) rfl rfl (by kernel_rfl) (by kernel_rfl) (by kernel_rfl) (by kernel_rfl) (fun _ _ _ h=>h) (Or.inl ⟨by rfl, ?_⟩) (by first | assumption | trivial) ?_
          rotate_left
          · (intro w hSw; (try dsimp only at hSw); go_simp) <;> (with_reducible rfl)
          simp only [List.setIfInBounds_toArray,List.set_cons_zero,List.set_cons_succ]
          refine wpAnyT_next (i:=2) (by kernel_rfl) rfl ?_
          go_wp2_with fail
          refine And.intro (by first | exact hHeld | exact fun _=>hHeld) ?_
          refine wpAnyT_take2 (i:=3) (v:=.bool false) rfl rfl (by kernel_rfl) (by kernel_rfl) (by kernel_rfl) (by kernel_rfl) (fun _ _ _ h=>h) (Or.inl ⟨by rfl, ?_⟩) (by first | assumption | trivial) ?_
          · (intro w hSw; (try dsimp only at hSw); go_simp) <;> (first | (with_reducible rfl) | assumption | (simp; done) | (simp [*]; done) | (simp; omega))
          simp only [List.setIfInBounds_toArray,List.set_cons_zero,List.set_cons_succ]
          refine wpAnyT_take2 (i:=4) (v:=?_) rfl rfl (by kernel_rfl) (by kernel_rfl) (by kernel_rfl) (by kernel_rfl) (fun _ _ _ h=>h) (Or.inl ⟨by rfl, ?_⟩) (by first | assumption | trivial) ?_
          rotate_left
          · (intro w hSw; (try dsimp only at hSw); go_simp) <;> (with_reducible rfl)
          simp only [List.setIfInBounds_toArray,List.set_cons_zero,List.set_cons_succ]
          refine wpAnyT_take2 (i:=5) (v:=undef) rfl rfl (by kernel_rfl) (by kernel_rfl) (by kernel_rfl) (by kernel_rfl) (fun _ _ _ h=>h) (Or.inr ⟨by rfl,rfl⟩) (by first | assumption | trivial) ?_
          simp only [List.setIfInBounds_toArray,List.set_cons_zero,List.set_cons_succ]
          refine wpAnyT_take2 (i:=6) (v:=undef) rfl rfl (by kernel_rfl) (by kernel_rfl) (by kernel_rfl) (by kernel_rfl) (fun _ _ _ h=>h) (Or.inr ⟨by rfl,rfl⟩) (by first | assumption | trivial) ?_
          simp only [List.setIfInBounds_toArray,List.set_cons_zero,List.set_cons_succ]
          refine wpAnyT_take2 (i:=7) (v:=undef) rfl rfl (by kernel_rfl) (by kernel_rfl) (by kernel_rfl) (by kernel_rfl) (fun _ _ _ h=>h) (Or.inr ⟨by rfl,rfl⟩) (by first | assumption | trivial) ?_
          simp only [List.setIfInBounds_toArray,List.set_cons_zero,List.set_cons_succ]
          refine wpAnyT_take2 (i:=8) (v:=undef) rfl rfl (by kernel_rfl) (by kernel_rfl) (by kernel_rfl) (by kernel_rfl) (fun _ _ _ h=>h) (Or.inr ⟨by rfl,rfl⟩) (by first | assumption | trivial) ?_
          simp only [List.setIfInBounds_toArray,List.set_cons_zero,List.set_cons_succ]
          refine wpAnyT_take2 (i:=9) (v:=undef) rfl rfl (by kernel_rfl) (by kernel_rfl) (by kernel_rfl) (by kernel_rfl) (fun _ _ _ h=>h) (Or.inr ⟨by rfl,rfl⟩) (by first | assumption | trivial) ?_
          simp only [List.setIfInBounds_toArray,List.set_cons_zero,List.set_cons_succ]
          refine wpAnyT_take2 (i:=10) (v:=undef) rfl rfl (by kernel_rfl) (by kernel_rfl) (by kernel_rfl) (by kernel_rfl) (fun _ _ _ h=>h) (Or.inr ⟨by rfl,rfl⟩) (by first | assumption | trivial) ?_
          simp only [List.setIfInBounds_toArray,List.set_cons_zero,List.set_cons_succ]
          refine wpAnyT_take2 (i:=11) (v:=undef) rfl rfl (by kernel_rfl) (by kernel_rfl) (by kernel_rfl) (by kernel_rfl) (fun _ _ _ h=>h) (Or.inr ⟨by rfl,rfl⟩) (by first | assumption | trivial) ?_
          simp only [List.setIfInBounds_toArray,List.set_cons_zero,List.set_cons_succ]
          refine wpAnyT_take2 (i:=12) (v:=undef) rfl rfl (by kernel_rfl) (by kernel_rfl) (by kernel_rfl) (by kernel_rfl) (fun _ _ _ h=>h) (Or.inr ⟨by rfl,rfl⟩) (by first | assumption | trivial) ?_
          simp only [List.setIfInBounds_toArray,List.set_cons_zero,List.set_cons_succ]
          refine wpAnyT_take2 (i:=13) (v:=undef) rfl rfl (by kernel_rfl) (by kernel_rfl) (by kernel_rfl) (by kernel_rfl) (fun _ _ _ h=>h) (Or.inr ⟨by rfl,rfl⟩) (by first | assumption | trivial) ?_
          simp only [List.setIfInBounds_toArray,List.set_cons_zero,List.set_cons_succ]
          refine wpAnyT_take2 (i:=14) (v:=undef) rfl rfl (by kernel_rfl) (by kernel_rfl) (by kernel_rfl) (by kernel_rfl) (fun _ _ _ h=>h) (Or.inr ⟨by rfl,rfl⟩) (by first | assumption | trivial) ?_
          simp only [List.setIfInBounds_toArray,List.set_cons_zero,List.set_cons_succ]
          refine wpAnyT_take2 (i:=15) (v:=undef) rfl rfl (by kernel_rfl) (by kernel_rfl) (by kernel_rfl) (by kernel_rfl) (fun _ _ _ h=>h) (Or.inr ⟨by rfl,rfl⟩) (by first | assumption | trivial) ?_
          simp only [List.setIfInBounds_toArray,List.set_cons_zero,List.set_cons_succ]
          refine wpAnyT_take2 (i:=16) (v:=undef) rfl rfl (by kernel_rfl) (by kernel_rfl) (by kernel_rfl) (by kernel_rfl) (fun _ _ _ h=>h) (Or.inr ⟨by rfl,rfl⟩) (by first | assumption | trivial) ?_
          simp only [List.setIfInBounds_toArray,List.set_cons_zero,List.set_cons_succ]
          refine wpAnyT_take2 (i:=17) (v:=undef) rfl rfl (by kernel_rfl) (by kernel_rfl) (by kernel_rfl) (by kernel_rfl) (fun _ _ _ h=>h) (Or.inr ⟨by rfl,rfl⟩) (by first | assumption | trivial) ?_
          simp only [List.setIfInBounds_toArray,List.set_cons_zero,List.set_cons_succ]
          refine wpAnyT_take2 (i:=18) (v:=undef) rfl rfl (by kernel_rfl) (by kernel_rfl) (by kernel_rfl) (by kernel_rfl) (fun _ _ _ h=>h) (Or.inr ⟨by rfl,rfl⟩) (by first | assumption | trivial) ?_
          simp only [List.setIfInBounds_toArray,List.set_cons_zero,List.set_cons_succ]
          refine wpAnyT_take2 (i:=19) (v:=undef) rfl rfl (by kernel_rfl) (by kernel_rfl) (by kernel_rfl) (by kernel_rfl) (fun _ _ _ h=>h) (Or.inr ⟨by rfl,rfl⟩) (by first | assumption | trivial) ?_
          simp only [List.setIfInBounds_toArray,List.set_cons_zero,List.set_cons_succ]
          refine wpAnyT_take2 (i:=20) (v:=undef) rfl rfl (by kernel_rfl) (by kernel_rfl) (by kernel_rfl) (by kernel_rfl) (fun _ _ _ h=>h) (Or.inr ⟨by rfl,rfl⟩) (by first | assumption | trivial) ?_
          simp only [List.setIfInBounds_toArray,List.set_cons_zero,List.set_cons_succ]
          refine wpAnyT_take2 (i:=21) (v:=undef) rfl rfl (by kernel_rfl) (by kernel_rfl) (by kernel_rfl) (by kernel_rfl) (fun _ _ _ h=>h) (Or.inr ⟨by rfl,rfl⟩) (by first | assumption | trivial) ?_
          simp only [List.setIfInBounds_toArray,List.set_cons_zero,List.set_cons_succ]
          refine wpAnyT_take2 (i:=22) (v:=undef) rfl rfl (by kernel_rfl) (by kernel_rfl) (by kernel_rfl) (by kernel_rfl) (fun _ _ _ h=>h) (Or.inr ⟨by rfl,rfl⟩) (by first | assumption | trivial) ?_
          simp only [List.setIfInBounds_toArray,List.set_cons_zero,List.set_cons_succ]
          refine wpAnyT_take2 (i:=23) (v:=undef) rfl rfl (by kernel_rfl) (by kernel_rfl) (by kernel_rfl) (by kernel_rfl) (fun _ _ _ h=>h) (Or.inr ⟨by rfl,rfl⟩) (by first | assumption | trivial) ?_
          simp only [List.setIfInBounds_toArray,List.set_cons_zero,List.set_cons_succ]
          refine wpAnyT_take2 (i:=24) (v:=undef) rfl rfl (by kernel_rfl) (by kernel_rfl) (by kernel_rfl) (by kernel_rfl) (fun _ _ _ h=>h) (Or.inr ⟨by rfl,rfl⟩) (by first | assumption | trivial) ?_
          simp only [List.setIfInBounds_toArray,List.set_cons_zero,List.set_cons_succ]
          refine wpAnyT_take2 (i:=25) (v:=undef) rfl rfl (by kernel_rfl) (by kernel_rfl) (by kernel_rfl) (by kernel_rfl) (fun _ _ _ h=>h) (Or.inr ⟨by rfl,rfl⟩) (by first | assumption | trivial) ?_
          simp only [List.setIfInBounds_toArray,List.set_cons_zero,List.set_cons_succ]
          refine wpAnyT_take2 (i:=26) (v:=undef) rfl rfl (by kernel_rfl) (by kernel_rfl) (by kernel_rfl) (by kernel_rfl) (fun _ _ _ h=>h) (Or.inr ⟨by rfl,rfl⟩) (by first | assumption | trivial) ?_
          simp only [List.setIfInBounds_toArray,List.set_cons_zero,List.set_cons_succ]
          refine wpAnyT_take2 (i:=27) (v:=undef) rfl rfl (by kernel_rfl) (by kernel_rfl) (by kernel_rfl) (by kernel_rfl) (fun _ _ _ h=>h) (Or.inr ⟨by rfl,rfl⟩) (by first | assumption | trivial) ?_
          simp only [List.setIfInBounds_toArray,List.set_cons_zero,List.set_cons_succ]
          refine wpAnyT_take2 (i:=28) (v:=undef) rfl rfl (by kernel_rfl) (by kernel_rfl) (by kernel_rfl) (by kernel_rfl) (fun _ _ _ h=>h) (Or.inr ⟨by rfl,rfl⟩) (by first | assumption | trivial) ?_
          simp only [List.setIfInBounds_toArray,List.set_cons_zero,List.set_cons_succ]
          refine wpAnyT_take2 (i:=29) (v:=undef) rfl rfl (by kernel_rfl) (by kernel_rfl) (by kernel_rfl) (by kernel_rfl) (fun _ _ _ h=>h) (Or.inr ⟨by rfl,rfl⟩) (by first | assumption | trivial) ?_
          simp only [List.setIfInBounds_toArray,List.set_cons_zero,List.set_cons_succ]
          refine wpAnyT_take2 (i:=30) (v:=undef) rfl rfl (by kernel_rfl) (by kernel_rfl) (by kernel_rfl) (by kernel_rfl) (fun _ _ _ h=>h) (Or.inr ⟨by rfl,rfl⟩) (by first | assumption | trivial) ?_
          simp only [List.setIfInBounds_toArray,List.set_cons_zero,List.set_cons_succ]
          refine wpAnyT_take2 (i:=31) (v:=undef) rfl rfl (by kernel_rfl) (by kernel_rfl) (by kernel_rfl) (by kernel_rfl) (fun _ _ _ h=>h) (Or.inr ⟨by rfl,rfl⟩) (by first | assumption | trivial) ?_
          simp only [List.setIfInBounds_toArray,List.set_cons_zero,List.set_cons_succ]
          refine wpAnyT_take2 (i:=32) (v:=undef) rfl rfl (by kernel_rfl) (by kernel_rfl) (by kernel_rfl) (by kernel_rfl) (fun _ _ _ h=>h) (Or.inr ⟨by rfl,rfl⟩) (by first | assumption | trivial) ?_
          simp only [List.setIfInBounds_toArray,List.set_cons_zero,List.set_cons_succ]
          refine wpAnyT_take2 (i:=33) (v:=?_) rfl rfl (by kernel_rfl) (by kernel_rfl) (by kernel_rfl) (by kernel_rfl) (fun _ _ _ h=>h) (Or.inl ⟨by rfl, ?_⟩) (by first | assumption | trivial) ?_
          rotate_left
          · (intro w hSw; (try dsimp only at hSw); go_simp) <;> (with_reducible rfl)
          simp only [List.setIfInBounds_toArray,List.set_cons_zero,List.set_cons_succ]
          refine wpAnyT_done (by kernel_rfl) ?_ _
          clear hHeld
          go_wp2_with fail
          have HUL:=Lib.hid (Below.drew HU.out)
          have HXd:=Lib.hid HXu.out.drew
          have HBd : Hid (Below base w wr.drew):=Lib.hid (HB2.out.trans (HUL.out.mono hbs2))
          have HRl : Hid (Rd (· < wr.heap.size) 4 ED.enc wr.drew ⟨some ⟨g,0,none⟩,c,l⟩):=Lib.hid ((Own.rd ED.k HOu.out.drew).mono fun b hb=>hb.2)
          have hcc : l.length≤c:=HRl.out.1
          have hcm : c≤maxLen:=HRl.out.2.1
          unfold maxLen at hcm
          have hbu : base≤wr.heap.size:=Nat.le_trans hbs2 HUL.out.size
          have hsz : wr.heap.size=(wr.drew).heap.size:=rfl
          rw [hsz] at hbu HRl
          clear hsz HU HUL HXu HOu HX2 HO2 HB2 HT HBS y0 y1 y2 y3 yf yz
          obtain ⟨wu,hwu⟩ : ∃ x,x=wr.drew:=⟨_,rfl⟩
          rw [← hwu] at HXd HBd hbu HRl ⊢
          clear hwu
          obtain ⟨y0,y1,y2,y3,yf,yz⟩:=HXd.out.b4
          refine wp_region_T (fun W=>W.cell? ⟨ge,0,none⟩=some (.int .i64 ef)∧W.cell? ⟨ge,1,none⟩=some (.int .i64 et)∧W.cell? ⟨ge,2,none⟩=some (.int .i64 en)∧W.cell? ⟨ge,3,none⟩=some (.int .i64 ev)) (fun _=>false) (by kernel_rfl) ⟨y0,y1,y2,y3⟩ (fun hHeld=>?_)
          refine wpAnyT_take2 (i:=1) (v:=?_) rfl rfl (by kernel_rfl) (by kernel_rfl) (by kernel_rfl) (by kernel_rfl) (fun _ _ _ h=>h) (Or.inl ⟨by rfl, ?_⟩) (by first | assumption | trivial) ?_
          rotate_left
          · (intro w hSw; (try dsimp only at hSw); go_simp) <;> (with_reducible rfl)
          simp only [List.setIfInBounds_toArray,List.set_cons_zero,List.set_cons_succ]
          refine wpAnyT_take2 (i:=2) (v:=?_) rfl rfl (by kernel_rfl) (by kernel_rfl) (by kernel_rfl) (by kernel_rfl) (fun _ _ _ h=>h) (Or.inl ⟨by rfl, ?_⟩) (by first | assumption | trivial) ?_
          rotate_left
          · (intro w hSw; (try dsimp only at hSw); go_simp) <;> (with_reducible rfl)
          simp only [List.setIfInBounds_toArray,List.set_cons_zero,List.set_cons_succ]
          refine wpAnyT_take2 (i:=3) (v:=?_) rfl rfl (by kernel_rfl) (by kernel_rfl) (by kernel_rfl) (by kernel_rfl) (fun _ _ _ h=>h) (Or.inl ⟨by rfl, ?_⟩) (by first | assumption | trivial) ?_
          rotate_left
          · (intro w hSw; (try dsimp only at hSw); go_simp) <;> (with_reducible rfl)
          simp only [List.setIfInBounds_toArray,List.set_cons_zero,List.set_cons_succ]
          refine wpAnyT_take2 (i:=5) (v:=?_) rfl rfl (by kernel_rfl) (by kernel_rfl) (by kernel_rfl) (by kernel_rfl) (fun _ _ _ h=>h) (Or.inl ⟨by rfl, ?_⟩) (by first | assumption | trivial) ?_
          rotate_left
          · (intro w hSw; (try dsimp only at hSw); go_simp) <;> (with_reducible rfl)
          simp only [List.setIfInBounds_toArray,List.set_cons_zero,List.set_cons_succ]
          refine wpAnyT_take2 (i:=8) (v:=?_) rfl rfl (by kernel_rfl) (by kernel_rfl) (by kernel_rfl) (by kernel_rfl) (fun _ _ _ h=>h) (Or.inl ⟨by rfl, ?_⟩) (by first | assumption | trivial) ?_
          rotate_left
          · (intro w hSw; (try dsimp only at hSw); go_simp) <;> (with_reducible rfl)
          simp only [List.setIfInBounds_toArray,List.set_cons_zero,List.set_cons_succ]
          refine wpAnyT_take2 (i:=9) (v:=?_) rfl rfl (by kernel_rfl) (by kernel_rfl) (by kernel_rfl) (by kernel_rfl) (fun _ _ _ h=>h) (Or.inl ⟨by rfl, ?_⟩) (by first | assumption | trivial) ?_
          rotate_left
          · (intro w hSw; (try dsimp only at hSw); go_simp) <;> (with_reducible rfl)
          simp only [List.setIfInBounds_toArray,List.set_cons_zero,List.set_cons_succ]
          obtain ⟨a3,ha3⟩ : ∃ a,a=(if c=l.length then some (⟨g,0,none⟩ : Addr) else some (⟨g,l.length * 4,none⟩ : Addr)):=⟨_,rfl⟩
          refine wpAnyT_take2 (i:=10) (v:=.slice a3 (l.length - l.length) (c - l.length)) rfl rfl (by kernel_rfl) (by kernel_rfl) (by kernel_rfl) (by kernel_rfl) (fun _ _ _ h=>h) (Or.inl ⟨by rfl, ?_⟩) (by first | assumption | trivial) ?_
          · (intro w hSw; (try dsimp only at hSw); go_simp) <;> (first | (with_reducible rfl) | assumption | (simp; done) | (simp [*]; done) | (simp; omega))
          simp only [List.setIfInBounds_toArray,List.set_cons_zero,List.set_cons_succ]
          have HA3:=Lib.hid ha3
          clear ha3
          try (clear h1)
          try (clear h2)
          try (clear h3)
          try (clear hlt)
          try (clear hlt')
          clear hHeld y0 y1 y2 y3 yf yz
          have HUU : Hid (Below wu.heap.size wu wu.drew):=Lib.hid (Below.drew (Below.refl _ _))
          have HXX:=Lib.hid HXd.out.drew
          obtain ⟨w3,hw3⟩ : ∃ x,x=wu.drew:=⟨_,rfl⟩
          rw [← hw3] at HUU HXX ⊢
          clear hw3
          have htl : (l.take l.length).length=l.length:=by rw [List.length_take]; omega
          have hdl : (l.drop l.length).length=l.length - l.length:=List.length_drop
          apply cutT
          · intro fin0
            have FIN:=Lib.hid fin0
            clear fin0
            refine wpAnyT_two (i:=0) (j:=6) (by kernel_rfl) rfl rfl ?_ ?_
            · skip
              go_wp2_with fail
              have hal : Below w3.heap.size w3 (w3.alloc (.cells #[] 44)):=(Below.refl _ _).alloc (Nat.le_refl _) _
              have HR1 : Hid (Own wu.heap.size 44 4 ED.enc (w3.alloc (.cells #[] 44)) ⟨some ⟨w3.heap.size,0,none⟩,0,[]⟩):=Lib.hid (Own.lit w3 #[] [] HUU.out.size (by simp) rfl ED.k)
              replace HUU:=Lib.hid (HUU.out.trans (hal.mono HUU.out.size))
              replace HXX:=Lib.hid (HXX.out.later hal)
              clear hal
              generalize w3.alloc (.cells #[] 44)=v4 at *
              generalize w3.heap.size=g0 at *
              refine And.intro (by first | exact ⟨HXX.out.cell 0,HXX.out.cell 1,HXX.out.cell 2,HXX.out.cell 3⟩ | exact fun _=>⟨HXX.out.cell 0,HXX.out.cell 1,HXX.out.cell 2,HXX.out.cell 3⟩) ?_
              refine wpAnyT_two (i:=4) (j:=6) (by kernel_rfl) rfl rfl ?_ ?_
              · skip
                have hb2:=HUU.out.size
                refine wpl_append_sl _ rfl (.tmp 64) (.tmp 67) _ rfl Try.underlying22 infoEdge (by omega) ED.k ED.one ⟨some ⟨g0,0,none⟩,0,[]⟩ ⟨some ⟨g,0,none⟩,c,l.take l.length⟩ rfl (by simp only [htl]; rfl) HR1.out ((HRl.out.below HUU.out).take l.length) (by simp [maxLen]; omega) (by simp; omega) hb2 ?_
                intro A1 c1 v5 hown hg hAA
                clear hAA
                simp only [List.nil_append] at hown hg
                simp only [List.nil_append,htl]
                have hro : ∀ q,(Value.slice (some ⟨g0,0,none⟩) ([] : List ED).length 0).ownBlock=some q→wu.heap.size≤q:=fun q hq=>(own_row HR1.out q hq).2.1
                replace HUU:=Lib.hid (HUU.out.trans (below_of_grown hg hb2 hro))
                replace HXX:=Lib.hid (HXX.out.grown hg (fun e=>by have:=hro _ e.symm; have:=HXd.out.lt; omega))
                replace HR1:=Lib.hid hown
                clear hown hg hro hb2
                go_wp2_with fail
                refine And.intro (by first | exact ⟨HXX.out.cell 0,HXX.out.cell 1,HXX.out.cell 2,HXX.out.cell 3⟩ | exact fun _=>⟨HXX.out.cell 0,HXX.out.cell 1,HXX.out.cell 2,HXX.out.cell 3⟩) ?_
                refine wpAnyT_next (i:=6) (by kernel_rfl) rfl ?_
                go_wp2_with fail
                have hal : Below v5.heap.size v5 (v5.alloc (.cells #[.int .i64 ef,.int .i64 et,.int .i64 en,.int .i64 ev] 44)):=(Below.refl _ _).alloc (Nat.le_refl _) _
                have HE : Hid (Blk (v5.alloc (.cells #[.int .i64 ef,.int .i64 et,.int .i64 en,.int .i64 ev] 44)) v5.heap.size 44 #[.int .i64 ef,.int .i64 et,.int .i64 en,.int .i64 ev]):=Lib.hid (Blk.new _ _ _)
                replace HUU:=Lib.hid (HUU.out.trans (hal.mono HUU.out.size))
                replace HXX:=Lib.hid (HXX.out.later hal)
                replace HR1:=Lib.hid (HR1.out.below hal)
                clear hal
                generalize v5.alloc (.cells #[.int .i64 ef,.int .i64 et,.int .i64 en,.int .i64 ev] 44)=v6 at *
                generalize v5.heap.size=g6 at *
                refine And.intro (by first | exact ⟨HXX.out.cell 0,HXX.out.cell 1,HXX.out.cell 2,HXX.out.cell 3⟩ | exact fun _=>⟨HXX.out.cell 0,HXX.out.cell 1,HXX.out.cell 2,HXX.out.cell 3⟩) ?_
                revert HE
                revert HR1
                revert HXX
                revert HUU
                revert g0
                revert g6
                revert c1
                revert A1
                revert v6
                exact FIN.out
              · skip
                go_wp2_with fail
                have hal : Below v4.heap.size v4 (v4.alloc (.cells #[.int .i64 ef,.int .i64 et,.int .i64 en,.int .i64 ev] 44)):=(Below.refl _ _).alloc (Nat.le_refl _) _
                have HE : Hid (Blk (v4.alloc (.cells #[.int .i64 ef,.int .i64 et,.int .i64 en,.int .i64 ev] 44)) v4.heap.size 44 #[.int .i64 ef,.int .i64 et,.int .i64 en,.int .i64 ev]):=Lib.hid (Blk.new _ _ _)
                have HNE : Hid (g0≠v4.heap.size):=Lib.hid (Nat.ne_of_lt (HR1.out.bound g0 rfl))
                replace HUU:=Lib.hid (HUU.out.trans (hal.mono HUU.out.size))
                replace HXX:=Lib.hid (HXX.out.later hal)
                replace HR1:=Lib.hid (HR1.out.below hal)
                clear hal
                generalize v4.alloc (.cells #[.int .i64 ef,.int .i64 et,.int .i64 en,.int .i64 ev] 44)=v5 at *
                generalize v4.heap.size=g6 at *
                refine And.intro (by first | exact ⟨HXX.out.cell 0,HXX.out.cell 1,HXX.out.cell 2,HXX.out.cell 3⟩ | exact fun _=>⟨HXX.out.cell 0,HXX.out.cell 1,HXX.out.cell 2,HXX.out.cell 3⟩) ?_
                refine wpAnyT_next (i:=4) (by kernel_rfl) rfl ?_
                have hb2:=HUU.out.size
                refine wpl_append_sl _ rfl (.tmp 64) (.tmp 67) _ rfl Try.underlying22 infoEdge (by omega) ED.k ED.one ⟨some ⟨g0,0,none⟩,0,[]⟩ ⟨some ⟨g,0,none⟩,c,l.take l.length⟩ rfl (by simp only [htl]; rfl) HR1.out ((HRl.out.below HUU.out).take l.length) (by simp [maxLen]; omega) (by simp; omega) hb2 ?_
                intro A1 c1 v6 hown hg hAA
                clear hAA
                simp only [List.nil_append] at hown hg
                simp only [List.nil_append,htl]
                have hro : ∀ q,(Value.slice (some ⟨g0,0,none⟩) ([] : List ED).length 0).ownBlock=some q→wu.heap.size≤q:=fun q hq=>(own_row HR1.out q hq).2.1
                replace HUU:=Lib.hid (HUU.out.trans (below_of_grown hg hb2 hro))
                replace HXX:=Lib.hid (HXX.out.grown hg (fun e=>by have:=hro _ e.symm; have:=HXd.out.lt; omega))
                replace HE:=Lib.hid (HE.out.grown hg (fun e=>HNE.out (Option.some.inj (show some g6=some g0 from e)).symm))
                replace HR1:=Lib.hid hown
                clear hown hg hro hb2
                go_wp2_with fail
                refine And.intro (by first | exact ⟨HXX.out.cell 0,HXX.out.cell 1,HXX.out.cell 2,HXX.out.cell 3⟩ | exact fun _=>⟨HXX.out.cell 0,HXX.out.cell 1,HXX.out.cell 2,HXX.out.cell 3⟩) ?_
                exact wpAnyT_listed (by kernel_rfl) (FIN.out v6 A1 c1 g6 g0 HUU HXX HR1 HE)
            · skip
              go_wp2_with fail
              have hal : Below w3.heap.size w3 (w3.alloc (.cells #[.int .i64 ef,.int .i64 et,.int .i64 en,.int .i64 ev] 44)):=(Below.refl _ _).alloc (Nat.le_refl _) _
              have HE : Hid (Blk (w3.alloc (.cells #[.int .i64 ef,.int .i64 et,.int .i64 en,.int .i64 ev] 44)) w3.heap.size 44 #[.int .i64 ef,.int .i64 et,.int .i64 en,.int .i64 ev]):=Lib.hid (Blk.new _ _ _)
              replace HUU:=Lib.hid (HUU.out.trans (hal.mono HUU.out.size))
              replace HXX:=Lib.hid (HXX.out.later hal)
              clear hal
              generalize w3.alloc (.cells #[.int .i64 ef,.int .i64 et,.int .i64 en,.int .i64 ev] 44)=v4 at *
              generalize w3.heap.size=g6 at *
              refine And.intro (by first | exact ⟨HXX.out.cell 0,HXX.out.cell 1,HXX.out.cell 2,HXX.out.cell 3⟩ | exact fun _=>⟨HXX.out.cell 0,HXX.out.cell 1,HXX.out.cell 2,HXX.out.cell 3⟩) ?_
              refine wpAnyT_next (i:=0) (by kernel_rfl) rfl ?_
              go_wp2_with fail
              have hal : Below v4.heap.size v4 (v4.alloc (.cells #[] 44)):=(Below.refl _ _).alloc (Nat.le_refl _) _
              have HR1 : Hid (Own wu.heap.size 44 4 ED.enc (v4.alloc (.cells #[] 44)) ⟨some ⟨v4.heap.size,0,none⟩,0,[]⟩):=Lib.hid (Own.lit v4 #[] [] HUU.out.size (by simp) rfl ED.k)
              have HNE : Hid (v4.heap.size≠g6):=Lib.hid (Nat.ne_of_gt HE.out.lt)
              replace HUU:=Lib.hid (HUU.out.trans (hal.mono HUU.out.size))
              replace HXX:=Lib.hid (HXX.out.later hal)
              replace HE:=Lib.hid (HE.out.later hal)
              clear hal
              generalize v4.alloc (.cells #[] 44)=v5 at *
              generalize v4.heap.size=g0 at *
              refine And.intro (by first | exact ⟨HXX.out.cell 0,HXX.out.cell 1,HXX.out.cell 2,HXX.out.cell 3⟩ | exact fun _=>⟨HXX.out.cell 0,HXX.out.cell 1,HXX.out.cell 2,HXX.out.cell 3⟩) ?_
              refine wpAnyT_next (i:=4) (by kernel_rfl) rfl ?_
              have hb2:=HUU.out.size
              refine wpl_append_sl _ rfl (.tmp 64) (.tmp 67) _ rfl Try.underlying22 infoEdge (by omega) ED.k ED.one ⟨some ⟨g0,0,none⟩,0,[]⟩ ⟨some ⟨g,0,none⟩,c,l.take l.length⟩ rfl (by simp only [htl]; rfl) HR1.out ((HRl.out.below HUU.out).take l.length) (by simp [maxLen]; omega) (by simp; omega) hb2 ?_
              intro A1 c1 v6 hown hg hAA
              clear hAA
              simp only [List.nil_append] at hown hg
              simp only [List.nil_append,htl]
              have hro : ∀ q,(Value.slice (some ⟨g0,0,none⟩) ([] : List ED).length 0).ownBlock=some q→wu.heap.size≤q:=fun q hq=>(own_row HR1.out q hq).2.1
              replace HUU:=Lib.hid (HUU.out.trans (below_of_grown hg hb2 hro))
              replace HXX:=Lib.hid (HXX.out.grown hg (fun e=>by have:=hro _ e.symm; have:=HXd.out.lt; omega))
              replace HE:=Lib.hid (HE.out.grown hg (fun e=>HNE.out (Option.some.inj (show some g6=some g0 from e)).symm))
              replace HR1:=Lib.hid hown
              clear hown hg hro hb2
              go_wp2_with fail
              refine And.intro (by first | exact ⟨HXX.out.cell 0,HXX.out.cell 1,HXX.out.cell 2,HXX.out.cell 3⟩ | exact fun _=>⟨HXX.out.cell 0,HXX.out.cell 1,HXX.out.cell 2,HXX.out.cell 3⟩) ?_
              exact wpAnyT_listed (by kernel_rfl) (FIN.out v6 A1 c1 g6 g0 HUU HXX HR1 HE)
          · intro W A1 c1 g6 g0 HUU HXX HR1 HE
            refine wpAnyT_next (i:=7) (by kernel_rfl) rfl ?_
            have hb2:=HUU.out.size
            refine wpl_append_sl _ rfl (.tmp 68) (.tmp 70) _ rfl Try.underlying22 infoEdge (by omega) ED.k ED.one ⟨A1,c1,l.take l.length⟩ ⟨some ⟨g6,0,none⟩,1,[⟨ef,et,en,ev⟩]⟩ (by simp only [htl]; rfl) rfl HR1.out (rd_ed1 HE.out) (by first | (simp [maxLen]; done) | (simp [maxLen]; omega)) (by first | (simp; done) | (simp; omega)) hb2 ?_
            intro A2 c2 w5 hown hg hAA
            clear hAA
            simp only at hown hg
            have hro : ∀ q,(Value.slice A1 (l.take l.length).length c1).ownBlock=some q→wu.heap.size≤q:=fun q hq=>(own_row HR1.out q hq).2.1
            replace HUU:=Lib.hid (HUU.out.trans (below_of_grown hg hb2 hro))
            replace HXX:=Lib.hid (HXX.out.grown hg (fun e=>by have:=hro _ e.symm; have:=HXd.out.lt; omega))
            have HR2:=Lib.hid hown
            clear hown hg hro hb2 HR1 HE
            have hl2 : (l.take l.length ++ [(⟨ef,et,en,ev⟩ : ED)]).length≤1001:=by first | (simp; done) | (simp; omega)
            obtain ⟨l1,hl1⟩ : ∃ X,l.take l.length ++ [(⟨ef,et,en,ev⟩ : ED)]=X:=⟨_,rfl⟩
            rw [hl1] at HR2 hl2 ⊢
            have HL1:=Lib.hid hl1
            clear hl1
            go_wp2_with fail
            refine And.intro (by first | exact ⟨HXX.out.cell 0,HXX.out.cell 1,HXX.out.cell 2,HXX.out.cell 3⟩ | exact fun _=>⟨HXX.out.cell 0,HXX.out.cell 1,HXX.out.cell 2,HXX.out.cell 3⟩) ?_
            refine wpAnyT_next (i:=11) (by kernel_rfl) rfl ?_
            have hb2:=HUU.out.size
            have hrd:=rd_drop (HRl.out.below HUU.out) hkl HA3.out
            refine wpl_append_sl _ rfl (.tmp 71) (.tmp 74) _ rfl Try.underlying22 infoEdge (by omega) ED.k ED.one ⟨A2,c2,l1⟩ ⟨a3,c - l.length,l.drop l.length⟩ rfl (by first | (simp only [hdl]; rfl) | (simp only [hdl,Nat.sub_self]; rfl)) HR2.out hrd (by simp [maxLen]; omega) (by simp; omega) hb2 ?_
            intro A3 c3 w6 hown hg hAA
            clear hAA
            simp only at hown hg
            have hro : ∀ q,(Value.slice A2 l1.length c2).ownBlock=some q→wu.heap.size≤q:=fun q hq=>(own_row HR2.out q hq).2.1
            replace HUU:=Lib.hid (HUU.out.trans (below_of_grown hg hb2 hro))
            replace HXX:=Lib.hid (HXX.out.grown hg (fun e=>by have:=hro _ e.symm; have:=HXd.out.lt; omega))
            have HR3:=Lib.hid hown
            clear hown hg hro hb2 HR2
            obtain ⟨l2,hl2⟩ : ∃ X,l1 ++ l.drop l.length=X:=⟨_,rfl⟩
            rw [hl2] at HR3 ⊢
            have HVL : Hid (V=l2):=Lib.hid (by rw [HVI.out,insE_at,HT2.out,← hl2,← HL1.out]; simp)
            clear hl2
            go_wp2_with fail
            refine And.intro (by first | exact ⟨HXX.out.cell 0,HXX.out.cell 1,HXX.out.cell 2,HXX.out.cell 3⟩ | exact fun _=>⟨HXX.out.cell 0,HXX.out.cell 1,HXX.out.cell 2,HXX.out.cell 3⟩) ?_
            have hHeld:=And.intro (HXX.out.cell 0) (And.intro (HXX.out.cell 1) (And.intro (HXX.out.cell 2) (HXX.out.cell 3)))
            refine wpAnyT_take2 (i:=12) (v:=?_) rfl rfl (by kernel_rfl) (by kernel_rfl) (by kernel_rfl) (by kernel_rfl) (fun _ _ _ h=>h) (Or.inl ⟨by rfl, ?_⟩) (by first | assumption | trivial) ?_
            rotate_left
            · (intro w hSw; (try dsimp only at hSw); go_simp) <;> (with_reducible rfl)
            simp only [List.setIfInBounds_toArray,List.set_cons_zero,List.set_cons_succ]
            clear hHeld
            refine wpAnyT_done (by kernel_rfl) ?_ _
            go_wp2_with fail
            go_ret
            exact ⟨A3,c3,by rw [HVL.out]; rfl,by rw [HVL.out]; exact HR3.out.mono hbu,HBd.out.trans (HUU.out.mono hbu)⟩
  · rw [h1] at hcall
    have HX:=Lib.hid h2
    have hkl : k<l.length:=(List.getElem?_eq_some_iff.1 h2).1
    go_wp2_with fail
    refine hcall.mono ?_
    clear hcall y0 y1 y2 y3 yf yz
    rintro r w2 ⟨rfl,hb⟩
    have HO2:=Lib.hid (HO1.out.below hb)
    have HX2:=Lib.hid (HX1.out.later hb)
    have HB2:=Lib.hid (HB1.out.trans (hb.mono hbs1))
    obtain ⟨xf,xt,xn,xv⟩:=x
    simp only at h4 h5
    subst h4 h5
    obtain ⟨g,rfl,hg1,hg2,c0,c1,c2,c3⟩:=own_edge HO2.out h2
    have hne : g≠ge:=HOG.out g rfl
    simp only at c0 c1 c2 c3
    have hfz : ∀ j,w2.frozen? ⟨g,j,none⟩=false:=fun j=>HO2.out.frozen rfl j
    obtain ⟨y0,y1,y2,y3,yf,yz⟩:=HX2.out.b4
    have HL3:=Lib.hid h3
    clear h1 h2 h3 hb HO1 HX1 HB1
    by_cases hn : en<xn
    · have HVI : Hid (V=l.set k ⟨xf,xt,en,ev⟩):=Lib.hid (by
        rw [← HV.out]
        unfold addE
        simp only
        rw [HL3.out]
        simp only
        rw [if_pos hn]
        exact putE_set HK.out HX.out rfl rfl)
      go_wp2_with fail
      refine wp_region_T (fun W=>W.cell? ⟨g,k * 4+2,none⟩=some (.int .i64 xn)∧W.cell? ⟨ge,2,none⟩=some (.int .i64 en)) (fun _=>false) (by kernel_rfl) ⟨c2,y2⟩ (fun hHeld=>?_)
      refine wpAnyT_take2 (i:=0) (v:=?_) rfl rfl (by kernel_rfl) (by kernel_rfl) (by kernel_rfl) (by kernel_rfl) (fun _ _ _ h=>h) (Or.inl ⟨by rfl, ?_⟩) (by first | assumption | trivial) ?_
      rotate_left
      · (intro w hSw; (try dsimp only at hSw); go_simp) <;> (with_reducible rfl)
      simp only [List.setIfInBounds_toArray,List.set_cons_zero,List.set_cons_succ]
      refine wpAnyT_take2 (i:=1) (v:=?_) rfl rfl (by kernel_rfl) (by kernel_rfl) (by kernel_rfl) (by kernel_rfl) (fun _ _ _ h=>h) (Or.inl ⟨by rfl, ?_⟩) (by first | assumption | trivial) ?_
      rotate_left
      · (intro w hSw; (try dsimp only at hSw); go_simp) <;> (with_reducible rfl)
      simp only [List.setIfInBounds_toArray,List.set_cons_zero,List.set_cons_succ]
      refine wpAnyT_take2 (i:=2) (v:=?_) rfl rfl (by kernel_rfl) (by kernel_rfl) (by kernel_rfl) (by kernel_rfl) (fun _ _ _ h=>h) (Or.inl ⟨by rfl, ?_⟩) (by first | assumption | trivial) ?_
      rotate_left
      · (intro w hSw; (try dsimp only at hSw); go_simp) <;> (with_reducible rfl)
      simp only [List.setIfInBounds_toArray,List.set_cons_zero,List.set_cons_succ]
      refine wpAnyT_take2 (i:=3) (v:=?_) rfl rfl (by kernel_rfl) (by kernel_rfl) (by kernel_rfl) (by kernel_rfl) (fun _ _ _ h=>h) (Or.inl ⟨by rfl, ?_⟩) (by first | assumption | trivial) ?_
      rotate_left
      · (intro w hSw; (try dsimp only at hSw); go_simp) <;> (with_reducible rfl)
      simp only [List.setIfInBounds_toArray,List.set_cons_zero,List.set_cons_succ]
      refine wpAnyT_take2 (i:=4) (v:=?_) rfl rfl (by kernel_rfl) (by kernel_rfl) (by kernel_rfl) (by kernel_rfl) (fun _ _ _ h=>h) (Or.inl ⟨by rfl, ?_⟩) (by first | assumption | trivial) ?_
      rotate_left
      · (intro w hSw; (try dsimp only at hSw); go_simp) <;> (with_reducible rfl)
      simp only [List.setIfInBounds_toArray,List.set_cons_zero,List.set_cons_succ]
      refine wpAnyT_take2 (i:=5) (v:=?_) rfl rfl (by kernel_rfl) (by kernel_rfl) (by kernel_rfl) (by kernel_rfl) (fun _ _ _ h=>h) (Or.inl ⟨by rfl, ?_⟩) (by first | assumption | trivial) ?_
      rotate_left
      · (intro w hSw; (try dsimp only at hSw); go_simp) <;> (with_reducible rfl)
      simp only [List.setIfInBounds_toArray,List.set_cons_zero,List.set_cons_succ]
      refine wpAnyT_take2 (i:=6) (v:=?_) rfl rfl (by kernel_rfl) (by kernel_rfl) (by kernel_rfl) (by kernel_rfl) (fun _ _ _ h=>h) (Or.inl ⟨by rfl, ?_⟩) (by first | assumption | trivial) ?_
      rotate_left
      · (intro w hSw; (try dsimp only at hSw); go_simp) <;> (with_reducible rfl)
      simp only [List.setIfInBounds_toArray,List.set_cons_zero,List.set_cons_succ]
      refine wpAnyT_take2 (i:=7) (v:=.bool true) rfl rfl (by kernel_rfl) (by kernel_rfl) (by kernel_rfl) (by kernel_rfl) (fun _ _ _ h=>h) (Or.inl ⟨by rfl, ?_⟩) (by first | assumption | trivial) ?_
      · (intro w hSw; (try dsimp only at hSw); go_simp) <;> (first | (with_reducible rfl) | assumption | (simp; done) | (simp [*]; done) | (simp; omega))
      simp only [List.setIfInBounds_toArray,List.set_cons_zero,List.set_cons_succ]
      refine wpAnyT_done (by kernel_rfl) ?_ _
      clear hHeld
      have hdr : Below w2.heap.size w2 w2.drew:=Below.drew (Below.refl _ _)
      go_wp2_with fail
      go_ret
      exact ⟨some ⟨g,0,none⟩,c,by rw [HVI.out,List.length_set]; rfl,by rw [HVI.out]; exact (own_put (e:=⟨xf,xt,en,ev⟩) HO2.out HX.out).drew,((((HB2.out.setCell (p:=⟨g,_,none⟩) hg1 _).setCell (p:=⟨g,_,none⟩) hg1 _).setCell (p:=⟨g,_,none⟩) hg1 _).setCell (p:=⟨g,_,none⟩) hg1 _).drew⟩
    · have HVI : Hid (V=l):=Lib.hid (by
        rw [← HV.out]
        unfold addE
        simp only
        rw [HL3.out]
        simp only
        rw [if_neg hn])
      go_wp2_with fail
      refine wp_region_T (fun W=>W.cell? ⟨g,k * 4+2,none⟩=some (.int .i64 xn)∧W.cell? ⟨ge,2,none⟩=some (.int .i64 en)) (fun _=>false) (by kernel_rfl) ⟨c2,y2⟩ (fun hHeld=>?_)
      refine wpAnyT_take2 (i:=0) (v:=?_) rfl rfl (by kernel_rfl) (by kernel_rfl) (by kernel_rfl) (by kernel_rfl) (fun _ _ _ h=>h) (Or.inl ⟨by rfl, ?_⟩) (by first | assumption | trivial) ?_
      rotate_left
      · (intro w hSw; (try dsimp only at hSw); go_simp) <;> (with_reducible rfl)
      simp only [List.setIfInBounds_toArray,List.set_cons_zero,List.set_cons_succ]
      refine wpAnyT_take2 (i:=1) (v:=?_) rfl rfl (by kernel_rfl) (by kernel_rfl) (by kernel_rfl) (by kernel_rfl) (fun _ _ _ h=>h) (Or.inl ⟨by rfl, ?_⟩) (by first | assumption | trivial) ?_
      rotate_left
      · (intro w hSw; (try dsimp only at hSw); go_simp) <;> (with_reducible rfl)
      simp only [List.setIfInBounds_toArray,List.set_cons_zero,List.set_cons_succ]
      refine wpAnyT_take2 (i:=2) (v:=?_) rfl rfl (by kernel_rfl) (by kernel_rfl) (by kernel_rfl) (by kernel_rfl) (fun _ _ _ h=>h) (Or.inl ⟨by rfl, ?_⟩) (by first | assumption | trivial) ?_
      rotate_left
      · (intro w hSw; (try dsimp only at hSw); go_simp) <;> (with_reducible rfl)
      simp only [List.setIfInBounds_toArray,List.set_cons_zero,List.set_cons_succ]
      refine wpAnyT_take2 (i:=3) (v:=?_) rfl rfl (by kernel_rfl) (by kernel_rfl) (by kernel_rfl) (by kernel_rfl) (fun _ _ _ h=>h) (Or.inl ⟨by rfl, ?_⟩) (by first | assumption | trivial) ?_
      rotate_left
      · (intro w hSw; (try dsimp only at hSw); go_simp) <;> (with_reducible rfl)
      simp only [List.setIfInBounds_toArray,List.set_cons_zero,List.set_cons_succ]
      refine wpAnyT_take2 (i:=4) (v:=?_) rfl rfl (by kernel_rfl) (by kernel_rfl) (by kernel_rfl) (by kernel_rfl) (fun _ _ _ h=>h) (Or.inl ⟨by rfl, ?_⟩) (by first | assumption | trivial) ?_
      rotate_left
      · (intro w hSw; (try dsimp only at hSw); go_simp) <;> (with_reducible rfl)
      simp only [List.setIfInBounds_toArray,List.set_cons_zero,List.set_cons_succ]
      refine wpAnyT_take2 (i:=5) (v:=?_) rfl rfl (by kernel_rfl) (by kernel_rfl) (by kernel_rfl) (by kernel_rfl) (fun _ _ _ h=>h) (Or.inl ⟨by rfl, ?_⟩) (by first | assumption | trivial) ?_
      rotate_left
      · (intro w hSw; (try dsimp only at hSw); go_simp) <;> (with_reducible rfl)
      simp only [List.setIfInBounds_toArray,List.set_cons_zero,List.set_cons_succ]
      refine wpAnyT_take2 (i:=6) (v:=?_) rfl rfl (by kernel_rfl) (by kernel_rfl) (by kernel_rfl) (by kernel_rfl) (fun _ _ _ h=>h) (Or.inl ⟨by rfl, ?_⟩) (by first | assumption | trivial) ?_
      rotate_left
      · (intro w hSw; (try dsimp only at hSw); go_simp) <;> (with_reducible rfl)
      simp only [List.setIfInBounds_toArray,List.set_cons_zero,List.set_cons_succ]
      refine wpAnyT_take2 (i:=7) (v:=.bool false) rfl rfl (by kernel_rfl) (by kernel_rfl) (by kernel_rfl) (by kernel_rfl) (fun _ _ _ h=>h) (Or.inl ⟨by rfl, ?_⟩) (by first | assumption | trivial) ?_
      · (intro w hSw; (try dsimp only at hSw); go_simp) <;> (first | (with_reducible rfl) | assumption | (simp; done) | (simp [*]; done) | (simp; omega))
      simp only [List.setIfInBounds_toArray,List.set_cons_zero,List.set_cons_succ]
      refine wpAnyT_done (by kernel_rfl) ?_ _
      clear hHeld
      go_wp2_with fail
      go_ret
      exact ⟨some ⟨g,0,none⟩,c,by rw [HVI.out]; rfl,by rw [HVI.out]; exact HO2.out.drew,HB2.out.drew⟩
end Go.Proofs.Ytlbihfbeamlacaa
