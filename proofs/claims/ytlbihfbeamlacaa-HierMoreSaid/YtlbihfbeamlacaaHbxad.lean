/- The plain law of a contraction hierarchy: up and down is as short as any way. -/
import Derived.Test.YtlbihfbeamlacaaHbxac
set_option linter.unusedSimpArgs false
set_option linter.unusedVariables false
set_option maxRecDepth 100000
set_option maxHeartbeats 6400000
namespace Go.Proofs.Ytlbihfbeamlacaa
open Go.RowKit
/-- A way up. -/
inductive UpW (F : Int→Int→Option ED) (rk : Int→Int) (s : Int) : Int→Int→Prop
  | nil : UpW F rk s s 0
  | snoc {u c w : Int} {x : ED} : UpW F rk s u c→F u w=some x→rk u<rk w→UpW F rk s w (c+x.n)
/-- A way down. -/
inductive DnW (F : Int→Int→Option ED) (rk : Int→Int) (s : Int) : Int→Int→Prop
  | nil : DnW F rk s s 0
  | snoc {u c w : Int} {x : ED} : DnW F rk s u c→F u w=some x→rk w<rk u→DnW F rk s w (c+x.n)
/-- Up and then down, in at most c. -/
def UD (F : Int→Int→Option ED) (rk : Int→Int) (s t c : Int) : Prop:=∃ v a b,UpW F rk s v a∧DnW F rk v t b∧a+b≤c
theorem UD.mono {F : Int→Int→Option ED} {rk : Int→Int} {s t c d : Int} (h : UD F rk s t c) (hc : c≤d) : UD F rk s t d:=by
  obtain ⟨v,a,b,h1,h2,h3⟩:=h
  exact ⟨v,a,b,h1,h2,by omega⟩
/-- The hierarchy: all nodes were contracted. -/
structure HOK (n : Nat) (es : List ED) (rk : Int→Int) (D : Int→Int→Int) (F : Int→Int→Option ED) : Prop where
  inv : HInv n es rk D n F
  gr : GrE n es
  d : IsD n es D
  lt : ∀ v,Ir n v→0≤rk v∧rk v<n
  inj : ∀ a b,Ir n a→Ir n b→rk a=rk b→a=b
section
variable {n : Nat} {es : List ED} {rk : Int→Int} {D : Int→Int→Int} {F : Int→Int→Option ED}
theorem HOK.n0 (h : HOK n es rk D F) {f t : Int} {x : ED} (hx : F f t=some x) : 0≤x.n:=by
  have:=h.inv.ge f t x hx
  omega
theorem UpW.end_ (h : HOK n es rk D F) {s v a : Int} (hw : UpW F rk s v a) (hs : Ir n s) : Ir n v:=by
  cases hw with
  | nil=>exact hs
  | snoc _ hx _=>exact (h.inv.key _ _ _ hx).2.2.2.1
theorem DnW.end_ (h : HOK n es rk D F) {s v a : Int} (hw : DnW F rk s v a) (hs : Ir n s) : Ir n v:=by
  cases hw with
  | nil=>exact hs
  | snoc _ hx _=>exact (h.inv.key _ _ _ hx).2.2.2.1
theorem UpW.ge (h : HOK n es rk D F) {s v a : Int} (hw : UpW F rk s v a) (hs : Ir n s) : 0≤D s v∧D s v≤a:=by
  induction hw with
  | nil=>rw [h.d.refl s hs]; exact ⟨Int.le_refl _,Int.le_refl _⟩
  | snoc hw hx _ ih =>
    have h1:=h.inv.ge _ _ _ hx
    have hk:=h.inv.key _ _ _ hx
    have h2:=h.d.tri s _ _ hs hk.2.2.1 hk.2.2.2.1 ih.1 h1.1
    omega
theorem DnW.ge (h : HOK n es rk D F) {s v a : Int} (hw : DnW F rk s v a) (hs : Ir n s) : 0≤D s v∧D s v≤a:=by
  induction hw with
  | nil=>rw [h.d.refl s hs]; exact ⟨Int.le_refl _,Int.le_refl _⟩
  | snoc hw hx _ ih =>
    have h1:=h.inv.ge _ _ _ hx
    have hk:=h.inv.key _ _ _ hx
    have h2:=h.d.tri s _ _ hs hk.2.2.1 hk.2.2.2.1 ih.1 h1.1
    omega
/-- An edge behind a way up and down. -/
theorem ud_step (h : HOK n es rk D F) {s v p d : Int} (hd : DnW F rk v p d) : ∀ a,UpW F rk s v a→∀ t x,F p t=some x→UD F rk s t (a+d+x.n):=by
  induction hd with
  | nil =>
    intro a ha t x hx
    have hk:=h.inv.key _ _ _ hx
    have hne : rk v≠rk t:=fun e=>hk.2.2.2.2 (h.inj _ _ hk.2.2.1 hk.2.2.2.1 e)
    by_cases hlt : rk v<rk t
    · exact ⟨t,a+x.n,0,.snoc ha hx hlt,.nil,by omega⟩
    · refine ⟨v,a,0+x.n,ha,.snoc .nil hx (by omega),by omega⟩
  | @snoc q c p y hq hy hlt ih =>
    intro a ha t x hx
    have hk:=h.inv.key _ _ _ hx
    have hky:=h.inv.key _ _ _ hy
    have hne : rk p≠rk t:=fun e=>hk.2.2.2.2 (h.inj _ _ hk.2.2.1 hk.2.2.2.1 e)
    by_cases hpt : rk t<rk p
    · exact ⟨v,a,c+y.n+x.n,ha,.snoc (.snoc hq hy hlt) hx hpt,by omega⟩
    · have h0:=h.n0 hx
      have h1:=h.n0 hy
      by_cases hqt : q=t
      · subst hqt
        exact ⟨v,a,c,ha,hq,by omega⟩
      · obtain ⟨z,hz,hzn⟩:=h.inv.clo p hk.2.2.1 (by have:=(h.lt p hk.2.2.1).2; omega) q t y x hy hx hqt hlt (by omega)
        exact (ih a ha t z hz).mono (by omega)
/-- Up and down is as short as any way. -/
theorem ud_all (h : HOK n es rk D F) {s t c : Int} (hw : Wk es s t c) : UD F rk s t c:=by
  induction hw with
  | nil=>exact ⟨s,0,0,.nil,.nil,by omega⟩
  | @snoc c e hw he ih =>
    have hn:=h.gr.n0 e he
    by_cases hft : e.f=e.t
    · rw [← hft]
      exact ih.mono (by omega)
    · obtain ⟨x,hx,hxn⟩:=h.inv.has e he hft
      obtain ⟨v,a,b,h1,h2,h3⟩:=ih
      exact (ud_step h h2 a h1 e.t x hx).mono (by omega)
theorem UpW.trans {F : Int→Int→Option ED} {rk : Int→Int} {s u v a b : Int} (h : UpW F rk s u a) (k : UpW F rk u v b) : UpW F rk s v (a+b):=by
  induction k with
  | nil=>rw [Int.add_zero]; exact h
  | snoc _ hx hl ih=>rw [← Int.add_assoc]; exact .snoc ih hx hl
def flipF (F : Int→Int→Option ED) (f t : Int) : Option ED:=F t f
theorem DnW.up {F : Int→Int→Option ED} {rk : Int→Int} {v t b : Int} (h : DnW F rk v t b) : UpW (flipF F) rk t v b:=by
  induction h with
  | nil=>exact .nil
  | @snoc u c w x _ hx hl ih =>
    have h1 : UpW (flipF F) rk w u (0+x.n):=.snoc .nil (show flipF F w u=some x from hx) hl
    have:=h1.trans ih
    rw [Int.zero_add,Int.add_comm] at this
    exact this
theorem upflip_ge (h : HOK n es rk D F) {t v b : Int} (hw : UpW (flipF F) rk t v b) (ht : Ir n t) : Ir n v∧0≤D v t∧D v t≤b:=by
  induction hw with
  | nil=>rw [h.d.refl t ht]; exact ⟨ht,Int.le_refl _,Int.le_refl _⟩
  | @snoc u c w x hw hx _ ih =>
    have hx : F w u=some x:=hx
    have h1:=h.inv.ge _ _ _ hx
    have hk:=h.inv.key _ _ _ hx
    have h2:=h.d.tri w u t hk.2.2.1 hk.2.2.2.1 ht h1.1 ih.2.1
    exact ⟨hk.2.2.1,h2.1,by omega⟩
end
/-- What climbing leaves: the distances, and the node before. -/
structure Climb (n : Nat) (F : Int→Int→Option ED) (rk : Int→Int) (s : Int) (d b : Int→Int) : Prop where
  d0 : d s=0
  b0 : b s = -1
  low : ∀ v, -1≤d v
  no : ∀ v,Ir n v→d v<0→b v = -1
  bef : ∀ v,Ir n v→0≤d v→v=s∨∃ x,Ir n (b v)∧F (b v) v=some x∧rk (b v)<rk v∧0≤d (b v)∧d v=d (b v)+x.n
  all : ∀ u w x,Ir n u→F u w=some x→rk u<rk w→0≤d u→0≤d w∧d w≤d u+x.n
section
variable {n : Nat} {es : List ED} {rk : Int→Int} {D : Int→Int→Int} {F : Int→Int→Option ED} {s : Int} {d b : Int→Int}
theorem Climb.min (h : Climb n F rk s d b) (hs : Ir n s) (hF : ∀ f t x,F f t=some x→Ir n f∧Ir n t) {v a : Int} (hw : UpW F rk s v a) : 0≤d v∧d v≤a:=by
  induction hw with
  | nil=>rw [h.d0]; exact ⟨Int.le_refl _,Int.le_refl _⟩
  | snoc _ hx hl ih =>
    have:=h.all _ _ _ (hF _ _ _ hx).1 hx hl ih.1
    omega
theorem Climb.way (h : Climb n F rk s d b) (hr : ∀ v,Ir n v→0≤rk v) : ∀ (k : Nat) (v : Int),Ir n v→rk v<k→0≤d v→UpW F rk s v (d v)
  | 0,v,hv,hk,_=>by have:=hr v hv; omega
  | k+1,v,hv,hk,h0=>by
    rcases h.bef v hv h0 with rfl | ⟨x,hb,hx,hl,h1,h2⟩
    · rw [h.d0]; exact .nil
    · rw [h2]
      exact .snoc (Climb.way h hr k (b v) hb (by omega) h1) hx hl
end
end Go.Proofs.Ytlbihfbeamlacaa
