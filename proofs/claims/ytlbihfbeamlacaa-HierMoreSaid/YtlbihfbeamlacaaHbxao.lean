/- Walk: a net's add. -/
import Derived.Test.YtlbihfbeamlacaaHbxan
set_option linter.unusedSimpArgs false
set_option linter.unusedVariables false
set_option maxRecDepth 100000
set_option maxHeartbeats 6400000
namespace Go.Proofs.Ytlbihfbeamlacaa
open Go.RowKit
theorem rd_int1 {W : World} {g : Nat} {x : Int} (h : Blk W g 3 #[.int .i64 x]) : Rd (· < W.heap.size) 1 ienc W ⟨some ⟨g,0,none⟩,1,[x]⟩ :=
  ⟨Nat.le_refl _,by unfold maxLen; simp,fun h=>by simp at h,fun i y hy=>by
    have hi : i=0:=by
      rcases i with _ | i
      · rfl
      · simp at hy
    subst hi
    have hxy : x=y:=by simpa using hy
    subst hxy
    exact ⟨g,0,rfl,h.lt,fun j u hu=>by rw [h.cell,Nat.zero_mul,Nat.zero_add]; simpa [ienc] using hu⟩⟩
/-- What stands in a walk of add: the net, the edge's box, the key's box. -/
structure AddS (n base g mb gi go : Nat) (Z : Nat→Prop) (w0 W : World) (l : List ED) (ins outs : List (Sl Int)) (g3 g4 : Nat) (fm tm : Nat) (en ev : Int) : Prop where
  m : NetM n base g mb gi go Z w0 W l ins outs
  b3 : Blk W g3 44 #[.int .i64 (fm : Nat),.int .i64 (tm : Nat),.int .i64 en,.int .i64 ev]
  b4 : Blk W g4 55 #[.int .i64 (fm : Nat),.int .i64 (tm : Nat)]
section
variable {n base g mb gi go : Nat} {Z : Nat→Prop} {w0 W W' : World} {l : List ED} {ins outs : List (Sl Int)} {g3 g4 fm tm : Nat} {en ev : Int}
theorem AddS.later (h : AddS n base g mb gi go Z w0 W l ins outs g3 g4 fm tm en ev) (hb : Below W.heap.size W W') : AddS n base g mb gi go Z w0 W' l ins outs g3 g4 fm tm en ev:=⟨h.m.later hb,h.b3.later hb,h.b4.later hb⟩
theorem AddS.s2 (h : AddS n base g mb gi go Z w0 W l ins outs g3 g4 fm tm en ev) : W.cell? ⟨g,0,none⟩=some (.map (some mb))∧W.cell? ⟨g4,0,none⟩=some (.int .i64 (fm : Nat))∧W.cell? ⟨g4,1,none⟩=some (.int .i64 (tm : Nat))∧MapE W mb l:=⟨h.m.bg.cell 0,h.b4.cell 0,h.b4.cell 1,h.m.mp⟩
theorem AddS.s5 {s1 : Sl Int} (h : AddS n base g mb gi go Z w0 W l ins outs g3 g4 fm tm en ev) (hs : outs[fm]? = some s1) : W.cell? ⟨g,2,none⟩=some (.slice (some ⟨go,0,none⟩) n n)∧W.cell? ⟨g3,0,none⟩=some (.int .i64 (fm : Nat))∧W.cell? ⟨g3,1,none⟩=some (.int .i64 (tm : Nat))∧W.cell? ⟨go,fm,none⟩=some (.slice s1.A s1.l.length s1.c):=⟨h.m.bg.cell 2,h.b3.cell 0,h.b3.cell 1,(h.m.bo.cell fm).trans (svA_at hs)⟩
theorem AddS.s6 {s2 : Sl Int} (h : AddS n base g mb gi go Z w0 W l ins outs g3 g4 fm tm en ev) (hs : ins[tm]? = some s2) : W.cell? ⟨g,1,none⟩=some (.slice (some ⟨gi,0,none⟩) n n)∧W.cell? ⟨g3,0,none⟩=some (.int .i64 (fm : Nat))∧W.cell? ⟨g3,1,none⟩=some (.int .i64 (tm : Nat))∧W.cell? ⟨gi,tm,none⟩=some (.slice s2.A s2.l.length s2.c):=⟨h.m.bg.cell 1,h.b3.cell 0,h.b3.cell 1,(h.m.bi.cell tm).trans (svA_at hs)⟩
theorem AddS.app {s : Sl Int} {N : Nat} (h : AddS n base g mb gi go Z w0 W l ins outs g3 g4 fm tm en ev) (hr : ∀ m,(Value.slice s.A s.l.length s.c).ownBlock=some m→base≤m∧m<N) (h3 : N≤g3) (h4 : N≤g4) (hg : W.grownBy W' (Value.slice s.A s.l.length s.c).ownBlock) :
    Blk W' g 54 #[.map (some mb),.slice (some ⟨gi,0,none⟩) n n,.slice (some ⟨go,0,none⟩) n n]∧Blk W' gi 23 (svA ins)∧Blk W' go 23 (svA outs)∧Blk W' g3 44 #[.int .i64 (fm : Nat),.int .i64 (tm : Nat),.int .i64 en,.int .i64 ev]∧Blk W' g4 55 #[.int .i64 (fm : Nat),.int .i64 (tm : Nat)]:=by
  have hk : ∀ b,b<base∨N≤b→b<W.heap.size→W'.heap[b]? = W.heap[b]?:=fun b hb hl=>app_keep hg hl fun m hm=>by have:=hr m hm; omega
  exact ⟨(hk g (.inl h.m.lt.1) h.m.bg.lt).trans h.m.bg,(hk gi (.inl h.m.lt.2.2.1) h.m.bi.lt).trans h.m.bi,(hk go (.inl h.m.lt.2.2.2) h.m.bo.lt).trans h.m.bo,(hk g3 (.inr h3) h.b3.lt).trans h.b3,(hk g4 (.inr h4) h.b4.lt).trans h.b4⟩
theorem AddS.out {s : Sl Int} {N : Nat} {A : Option Addr} {c : Nat} {l2 : List Int} (h : AddS n base g mb gi go Z w0 W l ins outs g3 g4 fm tm en ev) (hs : outs[fm]? = some s) (hr : ∀ m,(Value.slice s.A s.l.length s.c).ownBlock=some m→base≤m∧m<N) (hB : base≤N) (h3 : N≤g3) (h4 : N≤g4) (hown : Own base 3 1 ienc W' ⟨A,c,l2⟩)
    (hg : W.grownBy W' (Value.slice s.A s.l.length s.c).ownBlock) (hA : A=s.A∨A=some ⟨W.heap.size,0,none⟩) : AddS n base g mb gi go Z w0 (W'.setCell ⟨go,fm,none⟩ (.slice A l2.length c)) l ins (outs.set fm ⟨A,c,l2⟩) g3 g4 fm tm en ev:=by
  obtain ⟨_,_,_,b3,b4⟩:=h.app hr h3 h4 hg
  have:=h.m.lt.2.2.2
  exact ⟨h.m.out hs hown hg hA,b3.far (p:=⟨go,fm,none⟩) (by show g3≠go; omega) _,b4.far (p:=⟨go,fm,none⟩) (by show g4≠go; omega) _⟩
theorem AddS.in_ {s : Sl Int} {N : Nat} {A : Option Addr} {c : Nat} {l2 : List Int} (h : AddS n base g mb gi go Z w0 W l ins outs g3 g4 fm tm en ev) (hs : ins[tm]? = some s) (hr : ∀ m,(Value.slice s.A s.l.length s.c).ownBlock=some m→base≤m∧m<N) (hB : base≤N) (h3 : N≤g3) (h4 : N≤g4) (hown : Own base 3 1 ienc W' ⟨A,c,l2⟩)
    (hg : W.grownBy W' (Value.slice s.A s.l.length s.c).ownBlock) (hA : A=s.A∨A=some ⟨W.heap.size,0,none⟩) : AddS n base g mb gi go Z w0 (W'.setCell ⟨gi,tm,none⟩ (.slice A l2.length c)) l (ins.set tm ⟨A,c,l2⟩) outs g3 g4 fm tm en ev:=by
  obtain ⟨_,_,_,b3,b4⟩:=h.app hr h3 h4 hg
  have:=h.m.lt.2.2.1
  exact ⟨h.m.in_ hs hown hg hA,b3.far (p:=⟨gi,tm,none⟩) (by show g3≠gi; omega) _,b4.far (p:=⟨gi,tm,none⟩) (by show g4≠gi; omega) _⟩
theorem AddS.s7 (h : AddS n base g mb gi go Z w0 W l ins outs g3 g4 fm tm en ev) : W.cell? ⟨g,0,none⟩=some (.map (some mb))∧W.cell? ⟨g4,0,none⟩=some (.int .i64 (fm : Nat))∧W.cell? ⟨g4,1,none⟩=some (.int .i64 (tm : Nat))∧W.cell? ⟨g3,0,none⟩=some (.int .i64 (fm : Nat))∧W.cell? ⟨g3,1,none⟩=some (.int .i64 (tm : Nat))∧W.cell? ⟨g3,2,none⟩=some (.int .i64 en)∧W.cell? ⟨g3,3,none⟩=some (.int .i64 ev):=⟨h.m.bg.cell 0,h.b4.cell 0,h.b4.cell 1,h.b3.cell 0,h.b3.cell 1,h.b3.cell 2,h.b3.cell 3⟩
end
/-- What add leaves. -/
def AddP (n base g mb gi go : Nat) (Z : Nat→Prop) (w0 w' : World) (l : List ED) (ins outs : List (Sl Int)) (r : Ending) : Prop:=r = .returned (.tuple #[])∧∃ ins' outs',NetSt n base g mb gi go Z w0 w' l ins' outs'
theorem net_add {n base g mb gi go : Nat} {Z : Nat→Prop} {w0 w : World} {l : List ED} {ins outs : List (Sl Int)} (st : NetSt n base g mb gi go Z w0 w l ins outs) (e : ED) (hf : Ir n e.f) (ht : Ir n e.t) (hne : e.f≠e.t) (hn : n≤2000) :
    Calls Try.prog 45 #[.pointer (some ⟨g,0,none⟩),e.v'] w fun r w'=>AddP n base g mb gi go Z w0 w' (addL l e) ins outs r:=by
  obtain ⟨ef,et,en,ev⟩:=e
  simp only at hf ht hne
  obtain ⟨fm,rfl⟩:=Int.eq_ofNat_of_zero_le hf.1
  obtain ⟨tm,rfl⟩:=Int.eq_ofNat_of_zero_le ht.1
  obtain ⟨s1,hs1,ho1,hn1,hm1,hl1⟩:=st.outAt hf
  obtain ⟨s2,hs2,ho2,hn2,hm2,hl2⟩:=st.inAt ht
  have HST:=Lib.hid st
  have HF:=Lib.hid hf
  have HTT:=Lib.hid ht
  have HNE:=Lib.hid hne
  rw [Int.toNat_natCast] at hs1 hs2
  have HS1:=Lib.hid hs1
  have HS2:=Lib.hid hs2
  have HB1:=Lib.hid ho1.bound
  have HB2:=Lib.hid ho2.bound
  have HFM : Hid (fm<n):=Lib.hid (by unfold Ir at hf; omega)
  have HTM : Hid (tm<n):=Lib.hid (by unfold Ir at ht; omega)
  clear hf ht hne hs1 hs2 ho1 ho2 hn1 hn2 hm1 hm2
  obtain ⟨LN,hLN⟩ : ∃ LN,addL l (⟨(fm : Nat),(tm : Nat),en,ev⟩ : ED)=LN:=⟨_,rfl⟩
  rw [hLN]
  have HLN:=Lib.hid hLN
  clear hLN
  simp only [ED.v']
  go_enter Try.func45,Try.ntmps45
  go_wp2_with fail
  have HA : Hid (AddS n base g mb gi go Z w0 ((w.alloc (.cells #[.int .i64 (fm : Nat),.int .i64 (tm : Nat),.int .i64 en,.int .i64 ev] 44)).alloc (.cells #[.int .i64 (fm : Nat),.int .i64 (tm : Nat)] 55)) l ins outs w.heap.size (w.heap.size+1) fm tm en ev):=Lib.hid
    ⟨HST.out.m.later (by repeat (first | (with_reducible exact Below.refl _ _) | ((with_reducible refine below_setr ?_ ?_); focus (first | (simp; done) | (simp; omega) | omega)) | ((with_reducible refine below_allocr ?_ ?_); focus (first | (simp; done) | (simp; omega) | omega)) | (with_reducible refine Below.drew ?_) | (with_reducible refine below_drewN ?_ _))),(Blk.new _ _ _).alloc _,Blk.new' (by simp)⟩
  generalize (w.alloc (.cells #[.int .i64 (fm : Nat),.int .i64 (tm : Nat),.int .i64 en,.int .i64 ev] 44)).alloc (.cells #[.int .i64 (fm : Nat),.int .i64 (tm : Nat)] 55)=w1 at *
  obtain ⟨g4,hg4⟩ : ∃ x,w.heap.size+1=x:=⟨_,rfl⟩
  rw [hg4] at HA ⊢
  have HG4 : Hid (w.heap.size≤g4):=Lib.hid (by omega)
  clear hg4
  obtain ⟨g3,hg3⟩ : ∃ x,w.heap.size=x:=⟨_,rfl⟩
  rw [hg3] at HA ⊢
  have HG3 : Hid (w.heap.size≤g3):=Lib.hid (by omega)
  clear hg3
  have HID : Hid (I64 (fm : Nat)∧I64 (tm : Nat)):=Lib.hid (by have:=HFM.out; have:=HTM.out; unfold I64; omega)
  obtain ⟨o,ho⟩ : ∃ o,lkE l (fm : Nat) (tm : Nat)=o:=⟨_,rfl⟩
  have HLK:=Lib.hid ho
  clear ho st
  replace HA:=Lib.hid (HA.out.later (Below.drew (Below.refl w1.heap.size w1)))
  refine wp_region_T (fun W=>W.cell? ⟨g,0,none⟩=some (.map (some mb))∧W.cell? ⟨g4,0,none⟩=some (.int .i64 (fm : Nat))∧W.cell? ⟨g4,1,none⟩=some (.int .i64 (tm : Nat))∧MapE W mb l) (fun _=>false) (by kernel_rfl) HA.out.s2 (fun hHeld=>?_)
  refine wpAnyT_take2 (i:=0) (v:=?_) rfl rfl (by kernel_rfl) (by kernel_rfl) (by kernel_rfl) (by kernel_rfl) (fun _ _ _ h=>h) (Or.inl ⟨by rfl, ?_⟩) (by first | assumption | trivial) ?_
  rotate_left
  · (intro w hSw; (try dsimp only at hSw); go_simp) <;> (with_reducible rfl)
  simp only [List.setIfInBounds_toArray,List.set_cons_zero,List.set_cons_succ]
  refine wpAnyT_take2 (i:=1) (v:=?_) rfl rfl (by kernel_rfl) (by kernel_rfl) (by kernel_rfl) (by kernel_rfl) (fun _ _ _ h=>h) (Or.inl ⟨by rfl, ?_⟩) (by first | assumption | trivial) ?_
  rotate_left
  · (intro w hSw; (try dsimp only at hSw); go_simp) <;> (with_reducible rfl)
  simp only [List.setIfInBounds_toArray,List.set_cons_zero,List.set_cons_succ]
  refine wpAnyT_take2 (i:=2) (v:=?_) rfl rfl (by kernel_rfl) (by kernel_rfl) (by kernel_rfl) (by kernel_rfl) (fun _ _ _ h=>h) (Or.inl ⟨by rfl, ?_⟩) (by first | assumption | trivial) ?_
  rotate_left
  · (intro w hSw; (try dsimp only at hSw); go_simp) <;> (with_reducible rfl)
  simp only [List.setIfInBounds_toArray,List.set_cons_zero,List.set_cons_succ]
  refine wpAnyT_take2 (i:=3) (v:=?_) rfl rfl (by kernel_rfl) (by kernel_rfl) (by kernel_rfl) (by kernel_rfl) (fun _ _ _ h=>h) (Or.inl ⟨by rfl, ?_⟩) (by first | assumption | trivial) ?_
  rotate_left
  · (intro w hSw; (try dsimp only at hSw); go_simp) <;> (with_reducible rfl)
  simp only [List.setIfInBounds_toArray,List.set_cons_zero,List.set_cons_succ]
  refine wpAnyT_take2 (i:=4) (v:=?_) rfl rfl (by kernel_rfl) (by kernel_rfl) (by kernel_rfl) (by kernel_rfl) (fun _ _ _ h=>h) (Or.inl ⟨by rfl, ?_⟩) (by first | assumption | trivial) ?_
  rotate_left
  · (intro w hSw; (try dsimp only at hSw); go_simp) <;> (with_reducible rfl)
  simp only [List.setIfInBounds_toArray,List.set_cons_zero,List.set_cons_succ]
  clear hHeld
  generalize w1.drew=wd at *
  rcases o with _ | x
  · have hHeld:=HA.out.s2
    refine wpAnyT_take2 (i:=5) (v:=.tuple #[.agg #[.int .i64 0,.int .i64 0,.int .i64 0,.int .i64 0],.bool false]) rfl rfl (by kernel_rfl) (by kernel_rfl) (by kernel_rfl) (by kernel_rfl) (fun _ _ _ h=>h) (Or.inl ⟨by rfl, ?_⟩) (by first | assumption | trivial) ?_
    · exact fun W hW=>exec_look_no rfl Try.underlying52 (fun _=>Try.zeroValue44 ..) hW.2.2.2 rfl rfl HID.out.1 HID.out.2 HLK.out
    simp only [List.setIfInBounds_toArray,List.set_cons_zero,List.set_cons_succ]
    refine wpAnyT_take2 (i:=6) (v:=?_) rfl rfl (by kernel_rfl) (by kernel_rfl) (by kernel_rfl) (by kernel_rfl) (fun _ _ _ h=>h) (Or.inl ⟨by rfl, ?_⟩) (by first | assumption | trivial) ?_
    rotate_left
    · (intro w hSw; (try dsimp only at hSw); go_simp) <;> (with_reducible rfl)
    simp only [List.setIfInBounds_toArray,List.set_cons_zero,List.set_cons_succ]
    refine wpAnyT_take2 (i:=7) (v:=?_) rfl rfl (by kernel_rfl) (by kernel_rfl) (by kernel_rfl) (by kernel_rfl) (fun _ _ _ h=>h) (Or.inl ⟨by rfl, ?_⟩) (by first | assumption | trivial) ?_
    rotate_left
    · (intro w hSw; (try dsimp only at hSw); go_simp) <;> (with_reducible rfl)
    simp only [List.setIfInBounds_toArray,List.set_cons_zero,List.set_cons_succ]
    refine wpAnyT_take2 (i:=8) (v:=?_) rfl rfl (by kernel_rfl) (by kernel_rfl) (by kernel_rfl) (by kernel_rfl) (fun _ _ _ h=>h) (Or.inl ⟨by rfl, ?_⟩) (by first | assumption | trivial) ?_
    rotate_left
    · (intro w hSw; (try dsimp only at hSw); go_simp) <;> (with_reducible rfl)
    simp only [List.setIfInBounds_toArray,List.set_cons_zero,List.set_cons_succ]
    clear hHeld
    have hb5 : ∀ o,Below wd.heap.size wd (wd.alloc o):=fun o=>(Below.refl _ _).alloc (Nat.le_refl _) _
    refine wpAnyT_next (i:=9) (by kernel_rfl) rfl ?_
    go_wp2_with fail
    refine And.intro (by first | exact fun _=>(HA.out.later (hb5 _)).s2 | exact (HA.out.later (hb5 _)).s2) ?_
    refine wpAnyT_next (i:=10) (by kernel_rfl) rfl ?_
    go_wp2_with fail
    refine And.intro (by first | exact fun _=>(HA.out.later (hb5 _)).s2 | exact (HA.out.later (hb5 _)).s2) ?_
    have HB5 : Hid (Blk (wd.alloc (.cells #[.int .i64 (0),.int .i64 (0),.int .i64 (0),.int .i64 (0)] 44)) wd.heap.size 44 #[.int .i64 (0),.int .i64 (0),.int .i64 (0),.int .i64 (0)]):=Lib.hid (Blk.new _ _ _)
    replace HA:=Lib.hid (HA.out.later (hb5 (.cells #[.int .i64 (0),.int .i64 (0),.int .i64 (0),.int .i64 (0)] 44)))
    clear hb5
    generalize wd.alloc (.cells #[.int .i64 (0),.int .i64 (0),.int .i64 (0),.int .i64 (0)] 44)=w5 at *
    generalize wd.heap.size=g5 at *
    have hHeld:=HA.out.s2
    refine wpAnyT_take2 (i:=11) (v:=?_) rfl rfl (by kernel_rfl) (by kernel_rfl) (by kernel_rfl) (by kernel_rfl) (fun _ _ _ h=>h) (Or.inl ⟨by rfl, ?_⟩) (by first | assumption | trivial) ?_
    rotate_left
    · (intro w hSw; (try dsimp only at hSw); go_simp) <;> (with_reducible rfl)
    simp only [List.setIfInBounds_toArray,List.set_cons_zero,List.set_cons_succ]
    refine wpAnyT_done (by kernel_rfl) ?_ _
    clear hHeld
    go_wp2_with fail
    have hfn : (fm : Int)<(n : Int):=by have:=HFM.out; omega
    have htn : (tm : Int)<(n : Int):=by have:=HTM.out; omega
    replace HA:=Lib.hid (HA.out.later (Below.drew (Below.refl w5.heap.size w5)))
    refine wp_region_T (fun W=>W.cell? ⟨g,2,none⟩=some (.slice (some ⟨go,0,none⟩) n n)∧W.cell? ⟨g3,0,none⟩=some (.int .i64 (fm : Nat))∧W.cell? ⟨g3,1,none⟩=some (.int .i64 (tm : Nat))∧W.cell? ⟨go,fm,none⟩=some (.slice s1.A s1.l.length s1.c)) (fun i=>19≤i) (by kernel_rfl) (HA.out.s5 HS1.out) (fun hHeld=>?_)
    refine wpAnyT_take2 (i:=0) (v:=?_) rfl rfl (by kernel_rfl) (by kernel_rfl) (by kernel_rfl) (by kernel_rfl) (fun _ _ _ h=>h) (Or.inl ⟨by rfl, ?_⟩) (by first | assumption | trivial) ?_
    rotate_left
    · (intro w hSw; (try dsimp only at hSw); go_simp) <;> (with_reducible rfl)
    simp only [List.setIfInBounds_toArray,List.set_cons_zero,List.set_cons_succ]
    refine wpAnyT_take2 (i:=1) (v:=?_) rfl rfl (by kernel_rfl) (by kernel_rfl) (by kernel_rfl) (by kernel_rfl) (fun _ _ _ h=>h) (Or.inl ⟨by rfl, ?_⟩) (by first | assumption | trivial) ?_
    rotate_left
    · (intro w hSw; (try dsimp only at hSw); go_simp) <;> (with_reducible rfl)
    simp only [List.setIfInBounds_toArray,List.set_cons_zero,List.set_cons_succ]
    refine wpAnyT_take2 (i:=2) (v:=?_) rfl rfl (by kernel_rfl) (by kernel_rfl) (by kernel_rfl) (by kernel_rfl) (fun _ _ _ h=>h) (Or.inl ⟨by rfl, ?_⟩) (by first | assumption | trivial) ?_
    rotate_left
    · (intro w hSw; (try dsimp only at hSw); go_simp) <;> (with_reducible rfl)
    simp only [List.setIfInBounds_toArray,List.set_cons_zero,List.set_cons_succ]
    refine wpAnyT_take2 (i:=3) (v:=?_) rfl rfl (by kernel_rfl) (by kernel_rfl) (by kernel_rfl) (by kernel_rfl) (fun _ _ _ h=>h) (Or.inl ⟨by rfl, ?_⟩) (by first | assumption | trivial) ?_
    rotate_left
    · (intro w hSw; (try dsimp only at hSw); go_simp) <;> (with_reducible rfl)
    simp only [List.setIfInBounds_toArray,List.set_cons_zero,List.set_cons_succ]
    refine wpAnyT_take2 (i:=4) (v:=?_) rfl rfl (by kernel_rfl) (by kernel_rfl) (by kernel_rfl) (by kernel_rfl) (fun _ _ _ h=>h) (Or.inl ⟨by rfl, ?_⟩) (by first | assumption | trivial) ?_
    rotate_left
    · (intro w hSw; (try dsimp only at hSw); go_simp) <;> (with_reducible rfl)
    simp only [List.setIfInBounds_toArray,List.set_cons_zero,List.set_cons_succ]
    refine wpAnyT_take2 (i:=5) (v:=?_) rfl rfl (by kernel_rfl) (by kernel_rfl) (by kernel_rfl) (by kernel_rfl) (fun _ _ _ h=>h) (Or.inl ⟨by rfl, ?_⟩) (by first | assumption | trivial) ?_
    rotate_left
    · (intro w hSw; (try dsimp only at hSw); go_simp) <;> (with_reducible rfl)
    simp only [List.setIfInBounds_toArray,List.set_cons_zero,List.set_cons_succ]
    refine wpAnyT_take2 (i:=6) (v:=?_) rfl rfl (by kernel_rfl) (by kernel_rfl) (by kernel_rfl) (by kernel_rfl) (fun _ _ _ h=>h) (Or.inl ⟨by rfl, ?_⟩) (by first | assumption | trivial) ?_
    rotate_left
    · (intro w hSw; (try dsimp only at hSw); go_simp) <;> (with_reducible rfl)
    simp only [List.setIfInBounds_toArray,List.set_cons_zero,List.set_cons_succ]
    refine wpAnyT_take2 (i:=7) (v:=?_) rfl rfl (by kernel_rfl) (by kernel_rfl) (by kernel_rfl) (by kernel_rfl) (fun _ _ _ h=>h) (Or.inl ⟨by rfl, ?_⟩) (by first | assumption | trivial) ?_
    rotate_left
    · (intro w hSw; (try dsimp only at hSw); go_simp) <;> (with_reducible rfl)
    simp only [List.setIfInBounds_toArray,List.set_cons_zero,List.set_cons_succ]
    refine wpAnyT_take2 (i:=8) (v:=?_) rfl rfl (by kernel_rfl) (by kernel_rfl) (by kernel_rfl) (by kernel_rfl) (fun _ _ _ h=>h) (Or.inl ⟨by rfl, ?_⟩) (by first | assumption | trivial) ?_
    rotate_left
    · (intro w hSw; (try dsimp only at hSw); go_simp) <;> (with_reducible rfl)
    simp only [List.setIfInBounds_toArray,List.set_cons_zero,List.set_cons_succ]
    refine wpAnyT_take2 (i:=9) (v:=?_) rfl rfl (by kernel_rfl) (by kernel_rfl) (by kernel_rfl) (by kernel_rfl) (fun _ _ _ h=>h) (Or.inl ⟨by rfl, ?_⟩) (by first | assumption | trivial) ?_
    rotate_left
    · (intro w hSw; (try dsimp only at hSw); go_simp) <;> (with_reducible rfl)
    simp only [List.setIfInBounds_toArray,List.set_cons_zero,List.set_cons_succ]
    refine wpAnyT_take2 (i:=10) (v:=?_) rfl rfl (by kernel_rfl) (by kernel_rfl) (by kernel_rfl) (by kernel_rfl) (fun _ _ _ h=>h) (Or.inl ⟨by rfl, ?_⟩) (by first | assumption | trivial) ?_
    rotate_left
    · (intro w hSw; (try dsimp only at hSw); go_simp) <;> (with_reducible rfl)
    simp only [List.setIfInBounds_toArray,List.set_cons_zero,List.set_cons_succ]
    refine wpAnyT_take2 (i:=11) (v:=?_) rfl rfl (by kernel_rfl) (by kernel_rfl) (by kernel_rfl) (by kernel_rfl) (fun _ _ _ h=>h) (Or.inl ⟨by rfl, ?_⟩) (by first | assumption | trivial) ?_
    rotate_left
    · (intro w hSw; (try dsimp only at hSw); go_simp) <;> (with_reducible rfl)
    simp only [List.setIfInBounds_toArray,List.set_cons_zero,List.set_cons_succ]
    refine wpAnyT_take2 (i:=12) (v:=?_) rfl rfl (by kernel_rfl) (by kernel_rfl) (by kernel_rfl) (by kernel_rfl) (fun _ _ _ h=>h) (Or.inl ⟨by rfl, ?_⟩) (by first | assumption | trivial) ?_
    rotate_left
    · (intro w hSw; (try dsimp only at hSw); go_simp) <;> (with_reducible rfl)
    simp only [List.setIfInBounds_toArray,List.set_cons_zero,List.set_cons_succ]
    refine wpAnyT_take2 (i:=13) (v:=?_) rfl rfl (by kernel_rfl) (by kernel_rfl) (by kernel_rfl) (by kernel_rfl) (fun _ _ _ h=>h) (Or.inl ⟨by rfl, ?_⟩) (by first | assumption | trivial) ?_
    rotate_left
    · (intro w hSw; (try dsimp only at hSw); go_simp) <;> (with_reducible rfl)
    simp only [List.setIfInBounds_toArray,List.set_cons_zero,List.set_cons_succ]
    refine wpAnyT_take2 (i:=14) (v:=?_) rfl rfl (by kernel_rfl) (by kernel_rfl) (by kernel_rfl) (by kernel_rfl) (fun _ _ _ h=>h) (Or.inl ⟨by rfl, ?_⟩) (by first | assumption | trivial) ?_
    rotate_left
    · (intro w hSw; (try dsimp only at hSw); go_simp) <;> (with_reducible rfl)
    simp only [List.setIfInBounds_toArray,List.set_cons_zero,List.set_cons_succ]
    refine wpAnyT_take2 (i:=15) (v:=?_) rfl rfl (by kernel_rfl) (by kernel_rfl) (by kernel_rfl) (by kernel_rfl) (fun _ _ _ h=>h) (Or.inl ⟨by rfl, ?_⟩) (by first | assumption | trivial) ?_
    rotate_left
    · (intro w hSw; (try dsimp only at hSw); go_simp) <;> (with_reducible rfl)
    simp only [List.setIfInBounds_toArray,List.set_cons_zero,List.set_cons_succ]
    clear hHeld HB5
    generalize w5.drew=wd at *
    refine wpAnyT_next (i:=16) (by kernel_rfl) rfl ?_
    go_wp2_with fail
    have HE : Hid (Blk (wd.alloc (.cells #[.int .i64 (tm : Nat)] 3)) wd.heap.size 3 #[.int .i64 (tm : Nat)]):=Lib.hid (Blk.new _ _ _)
    replace HA:=Lib.hid (HA.out.later ((Below.refl wd.heap.size wd).alloc (Nat.le_refl _) (.cells #[.int .i64 (tm : Nat)] 3)))
    generalize wd.alloc (.cells #[.int .i64 (tm : Nat)] 3)=we at *
    generalize wd.heap.size=ge at *
    refine And.intro (by first | exact fun _=>HA.out.s5 HS1.out | exact HA.out.s5 HS1.out) ?_
    refine wpAnyT_next (i:=17) (by kernel_rfl) rfl ?_
    refine wpl_append_sl _ rfl (.tmp 44) (.tmp 47) _ rfl Try.underlying23 infoInt (by omega) ienc_k ienc_one s1 ⟨some ⟨ge,0,none⟩,1,[((tm : Nat) : Int)]⟩ rfl rfl (HA.out.m.fam.own fm s1 (by rw [List.getElem?_append_left (List.getElem?_eq_some_iff.1 HS1.out).1]; exact HS1.out)) (rd_int1 HE.out) (by simp [maxLen]; omega) (by simp; omega) HA.out.m.bb ?_
    intro A1 c1 wf hown hg hA
    have hrow : ∀ m,(Value.slice s1.A s1.l.length s1.c).ownBlock=some m→base≤m∧m<w.heap.size:=fun m hm=>by
      have h:=own_row (HST.out.m.fam.own fm s1 (by rw [List.getElem?_append_left (List.getElem?_eq_some_iff.1 HS1.out).1]; exact HS1.out)) m hm
      exact h.2
    have h5 : wf.cell? ⟨g,2,none⟩=some (.slice (some ⟨go,0,none⟩) n n)∧wf.cell? ⟨g3,0,none⟩=some (.int .i64 (fm : Nat))∧wf.cell? ⟨g3,1,none⟩=some (.int .i64 (tm : Nat))∧wf.cell? ⟨go,fm,none⟩=some (.slice s1.A s1.l.length s1.c):=by
      obtain ⟨k1,_,k3,k4,_⟩:=HA.out.app hrow HG3.out HG4.out hg
      exact ⟨k1.cell 2,k4.cell 0,k4.cell 1,(k3.cell fm).trans (svA_at HS1.out)⟩
    have HA2:=Lib.hid (HA.out.out HS1.out hrow HST.out.m.bb HG3.out HG4.out hown hg hA)
    have kf : wf.frozen? ⟨go,fm,none⟩=false:=by
      obtain ⟨_,_,k3,_⟩:=HA.out.app hrow HG3.out HG4.out hg
      exact k3.frozen fm
    have h5':=Lib.hid h5
    clear hown hg hA hrow HA HE h5
    simp only [List.length_append,List.length_cons,List.length_nil,Nat.zero_add] at HA2
    go_wp2_with fail
    refine And.intro (by first | exact fun _=>h5'.out | exact h5'.out) ?_
    have hHeld:=h5'.out
    refine wpAnyT_take2 (i:=18) (v:=?_) rfl rfl (by kernel_rfl) (by kernel_rfl) (by kernel_rfl) (by kernel_rfl) (fun _ _ _ h=>h) (Or.inl ⟨by rfl, ?_⟩) (by first | assumption | trivial) ?_
    rotate_left
    · (intro w hSw; (try dsimp only at hSw); go_simp) <;> (with_reducible rfl)
    simp only [List.setIfInBounds_toArray,List.set_cons_zero,List.set_cons_succ]
    obtain ⟨_,_,_,k0⟩:=h5'.out
    clear hHeld h5'
    refine wpAnyT_next (i:=19) (by kernel_rfl) rfl ?_
    go_wp2_with fail
    try simp only [QT]
    try (with_reducible refine And.intro (fun h=>by simp at h) ?_)
    refine wpAnyT_done (by kernel_rfl) ?_ _
    clear kf k0
    generalize wf.setCell ⟨go,fm,none⟩ (.slice A1 (s1.l.length+1) c1)=w6 at *
    go_wp2_with fail
    replace HA:=Lib.hid (HA2.out.later (Below.drew (Below.refl w6.heap.size w6)))
    clear HA2
    refine wp_region_T (fun W=>W.cell? ⟨g,1,none⟩=some (.slice (some ⟨gi,0,none⟩) n n)∧W.cell? ⟨g3,0,none⟩=some (.int .i64 (fm : Nat))∧W.cell? ⟨g3,1,none⟩=some (.int .i64 (tm : Nat))∧W.cell? ⟨gi,tm,none⟩=some (.slice s2.A s2.l.length s2.c)) (fun i=>19≤i) (by kernel_rfl) (HA.out.s6 HS2.out) (fun hHeld=>?_)
    refine wpAnyT_take2 (i:=0) (v:=?_) rfl rfl (by kernel_rfl) (by kernel_rfl) (by kernel_rfl) (by kernel_rfl) (fun _ _ _ h=>h) (Or.inl ⟨by rfl, ?_⟩) (by first | assumption | trivial) ?_
    rotate_left
    · (intro w hSw; (try dsimp only at hSw); go_simp) <;> (with_reducible rfl)
    simp only [List.setIfInBounds_toArray,List.set_cons_zero,List.set_cons_succ]
    refine wpAnyT_take2 (i:=1) (v:=?_) rfl rfl (by kernel_rfl) (by kernel_rfl) (by kernel_rfl) (by kernel_rfl) (fun _ _ _ h=>h) (Or.inl ⟨by rfl, ?_⟩) (by first | assumption | trivial) ?_
    rotate_left
    · (intro w hSw; (try dsimp only at hSw); go_simp) <;> (with_reducible rfl)
    simp only [List.setIfInBounds_toArray,List.set_cons_zero,List.set_cons_succ]
    refine wpAnyT_take2 (i:=2) (v:=?_) rfl rfl (by kernel_rfl) (by kernel_rfl) (by kernel_rfl) (by kernel_rfl) (fun _ _ _ h=>h) (Or.inl ⟨by rfl, ?_⟩) (by first | assumption | trivial) ?_
    rotate_left
    · (intro w hSw; (try dsimp only at hSw); go_simp) <;> (with_reducible rfl)
    simp only [List.setIfInBounds_toArray,List.set_cons_zero,List.set_cons_succ]
    refine wpAnyT_take2 (i:=3) (v:=?_) rfl rfl (by kernel_rfl) (by kernel_rfl) (by kernel_rfl) (by kernel_rfl) (fun _ _ _ h=>h) (Or.inl ⟨by rfl, ?_⟩) (by first | assumption | trivial) ?_
    rotate_left
    · (intro w hSw; (try dsimp only at hSw); go_simp) <;> (with_reducible rfl)
    simp only [List.setIfInBounds_toArray,List.set_cons_zero,List.set_cons_succ]
    refine wpAnyT_take2 (i:=4) (v:=?_) rfl rfl (by kernel_rfl) (by kernel_rfl) (by kernel_rfl) (by kernel_rfl) (fun _ _ _ h=>h) (Or.inl ⟨by rfl, ?_⟩) (by first | assumption | trivial) ?_
    rotate_left
    · (intro w hSw; (try dsimp only at hSw); go_simp) <;> (with_reducible rfl)
    simp only [List.setIfInBounds_toArray,List.set_cons_zero,List.set_cons_succ]
    refine wpAnyT_take2 (i:=5) (v:=?_) rfl rfl (by kernel_rfl) (by kernel_rfl) (by kernel_rfl) (by kernel_rfl) (fun _ _ _ h=>h) (Or.inl ⟨by rfl, ?_⟩) (by first | assumption | trivial) ?_
    rotate_left
    · (intro w hSw; (try dsimp only at hSw); go_simp) <;> (with_reducible rfl)
    simp only [List.setIfInBounds_toArray,List.set_cons_zero,List.set_cons_succ]
    refine wpAnyT_take2 (i:=6) (v:=?_) rfl rfl (by kernel_rfl) (by kernel_rfl) (by kernel_rfl) (by kernel_rfl) (fun _ _ _ h=>h) (Or.inl ⟨by rfl, ?_⟩) (by first | assumption | trivial) ?_
    rotate_left
    · (intro w hSw; (try dsimp only at hSw); go_simp) <;> (with_reducible rfl)
    simp only [List.setIfInBounds_toArray,List.set_cons_zero,List.set_cons_succ]
    refine wpAnyT_take2 (i:=7) (v:=?_) rfl rfl (by kernel_rfl) (by kernel_rfl) (by kernel_rfl) (by kernel_rfl) (fun _ _ _ h=>h) (Or.inl ⟨by rfl, ?_⟩) (by first | assumption | trivial) ?_
    rotate_left
    · (intro w hSw; (try dsimp only at hSw); go_simp) <;> (with_reducible rfl)
    simp only [List.setIfInBounds_toArray,List.set_cons_zero,List.set_cons_succ]
    refine wpAnyT_take2 (i:=8) (v:=?_) rfl rfl (by kernel_rfl) (by kernel_rfl) (by kernel_rfl) (by kernel_rfl) (fun _ _ _ h=>h) (Or.inl ⟨by rfl, ?_⟩) (by first | assumption | trivial) ?_
    rotate_left
    · (intro w hSw; (try dsimp only at hSw); go_simp) <;> (with_reducible rfl)
    simp only [List.setIfInBounds_toArray,List.set_cons_zero,List.set_cons_succ]
    refine wpAnyT_take2 (i:=9) (v:=?_) rfl rfl (by kernel_rfl) (by kernel_rfl) (by kernel_rfl) (by kernel_rfl) (fun _ _ _ h=>h) (Or.inl ⟨by rfl, ?_⟩) (by first | assumption | trivial) ?_
    rotate_left
    · (intro w hSw; (try dsimp only at hSw); go_simp) <;> (with_reducible rfl)
    simp only [List.setIfInBounds_toArray,List.set_cons_zero,List.set_cons_succ]
    refine wpAnyT_take2 (i:=10) (v:=?_) rfl rfl (by kernel_rfl) (by kernel_rfl) (by kernel_rfl) (by kernel_rfl) (fun _ _ _ h=>h) (Or.inl ⟨by rfl, ?_⟩) (by first | assumption | trivial) ?_
    rotate_left
    · (intro w hSw; (try dsimp only at hSw); go_simp) <;> (with_reducible rfl)
    simp only [List.setIfInBounds_toArray,List.set_cons_zero,List.set_cons_succ]
    refine wpAnyT_take2 (i:=11) (v:=?_) rfl rfl (by kernel_rfl) (by kernel_rfl) (by kernel_rfl) (by kernel_rfl) (fun _ _ _ h=>h) (Or.inl ⟨by rfl, ?_⟩) (by first | assumption | trivial) ?_
    rotate_left
    · (intro w hSw; (try dsimp only at hSw); go_simp) <;> (with_reducible rfl)
    simp only [List.setIfInBounds_toArray,List.set_cons_zero,List.set_cons_succ]
    refine wpAnyT_take2 (i:=12) (v:=?_) rfl rfl (by kernel_rfl) (by kernel_rfl) (by kernel_rfl) (by kernel_rfl) (fun _ _ _ h=>h) (Or.inl ⟨by rfl, ?_⟩) (by first | assumption | trivial) ?_
    rotate_left
    · (intro w hSw; (try dsimp only at hSw); go_simp) <;> (with_reducible rfl)
    simp only [List.setIfInBounds_toArray,List.set_cons_zero,List.set_cons_succ]
    refine wpAnyT_take2 (i:=13) (v:=?_) rfl rfl (by kernel_rfl) (by kernel_rfl) (by kernel_rfl) (by kernel_rfl) (fun _ _ _ h=>h) (Or.inl ⟨by rfl, ?_⟩) (by first | assumption | trivial) ?_
    rotate_left
    · (intro w hSw; (try dsimp only at hSw); go_simp) <;> (with_reducible rfl)
    simp only [List.setIfInBounds_toArray,List.set_cons_zero,List.set_cons_succ]
    refine wpAnyT_take2 (i:=14) (v:=?_) rfl rfl (by kernel_rfl) (by kernel_rfl) (by kernel_rfl) (by kernel_rfl) (fun _ _ _ h=>h) (Or.inl ⟨by rfl, ?_⟩) (by first | assumption | trivial) ?_
    rotate_left
    · (intro w hSw; (try dsimp only at hSw); go_simp) <;> (with_reducible rfl)
    simp only [List.setIfInBounds_toArray,List.set_cons_zero,List.set_cons_succ]
    refine wpAnyT_take2 (i:=15) (v:=?_) rfl rfl (by kernel_rfl) (by kernel_rfl) (by kernel_rfl) (by kernel_rfl) (fun _ _ _ h=>h) (Or.inl ⟨by rfl, ?_⟩) (by first | assumption | trivial) ?_
    rotate_left
    · (intro w hSw; (try dsimp only at hSw); go_simp) <;> (with_reducible rfl)
    simp only [List.setIfInBounds_toArray,List.set_cons_zero,List.set_cons_succ]
    clear hHeld
    generalize w6.drew=wd2 at *
    refine wpAnyT_next (i:=16) (by kernel_rfl) rfl ?_
    go_wp2_with fail
    have HE : Hid (Blk (wd2.alloc (.cells #[.int .i64 (fm : Nat)] 3)) wd2.heap.size 3 #[.int .i64 (fm : Nat)]):=Lib.hid (Blk.new _ _ _)
    replace HA:=Lib.hid (HA.out.later ((Below.refl wd2.heap.size wd2).alloc (Nat.le_refl _) (.cells #[.int .i64 (fm : Nat)] 3)))
    generalize wd2.alloc (.cells #[.int .i64 (fm : Nat)] 3)=we2 at *
    generalize wd2.heap.size=ge2 at *
    refine And.intro (by first | exact fun _=>HA.out.s6 HS2.out | exact HA.out.s6 HS2.out) ?_
    have HOW : Hid (∃ k,Own base 3 1 ienc we2 s2∧k=0):=Lib.hid ⟨0,HA.out.m.fam.own ((outs.set fm ⟨A1,c1,s1.l ++ [((tm : Nat) : Int)]⟩).length+tm) s2 (by rw [List.getElem?_append_right (Nat.le_add_right _ _),Nat.add_sub_cancel_left]; exact HS2.out),rfl⟩
    refine wpAnyT_next (i:=17) (by kernel_rfl) rfl ?_
    refine wpl_append_sl _ rfl (.tmp 63) (.tmp 66) _ rfl Try.underlying23 infoInt (by omega) ienc_k ienc_one s2 ⟨some ⟨ge2,0,none⟩,1,[((fm : Nat) : Int)]⟩ rfl rfl (HOW.out.choose_spec.1) (rd_int1 HE.out) (by simp [maxLen]; omega) (by simp; omega) HA.out.m.bb ?_
    intro A2 c2 wf2 hown hg hA
    have hrow : ∀ m,(Value.slice s2.A s2.l.length s2.c).ownBlock=some m→base≤m∧m<w.heap.size:=fun m hm=>by
      have h:=own_row (HST.out.m.fam.own (outs.length+tm) s2 (by rw [List.getElem?_append_right (Nat.le_add_right _ _),Nat.add_sub_cancel_left]; exact HS2.out)) m hm
      exact h.2
    have h5 : wf2.cell? ⟨g,1,none⟩=some (.slice (some ⟨gi,0,none⟩) n n)∧wf2.cell? ⟨g3,0,none⟩=some (.int .i64 (fm : Nat))∧wf2.cell? ⟨g3,1,none⟩=some (.int .i64 (tm : Nat))∧wf2.cell? ⟨gi,tm,none⟩=some (.slice s2.A s2.l.length s2.c):=by
      obtain ⟨k1,k2,_,k4,_⟩:=HA.out.app hrow HG3.out HG4.out hg
      exact ⟨k1.cell 1,k4.cell 0,k4.cell 1,(k2.cell tm).trans (svA_at HS2.out)⟩
    have HA2:=Lib.hid (HA.out.in_ HS2.out hrow HST.out.m.bb HG3.out HG4.out hown hg hA)
    have kf : wf2.frozen? ⟨gi,tm,none⟩=false:=by
      obtain ⟨_,k2,_⟩:=HA.out.app hrow HG3.out HG4.out hg
      exact k2.frozen tm
    have h5':=Lib.hid h5
    clear hown hg hA hrow HA HE h5 HOW
    simp only [List.length_append,List.length_cons,List.length_nil,Nat.zero_add] at HA2
    go_wp2_with fail
    refine And.intro (by first | exact fun _=>h5'.out | exact h5'.out) ?_
    have hHeld:=h5'.out
    refine wpAnyT_take2 (i:=18) (v:=?_) rfl rfl (by kernel_rfl) (by kernel_rfl) (by kernel_rfl) (by kernel_rfl) (fun _ _ _ h=>h) (Or.inl ⟨by rfl, ?_⟩) (by first | assumption | trivial) ?_
    rotate_left
    · (intro w hSw; (try dsimp only at hSw); go_simp) <;> (with_reducible rfl)
    simp only [List.setIfInBounds_toArray,List.set_cons_zero,List.set_cons_succ]
    obtain ⟨_,_,_,k0⟩:=h5'.out
    clear hHeld h5'
    refine wpAnyT_next (i:=19) (by kernel_rfl) rfl ?_
    go_wp2_with fail
    try simp only [QT]
    try (with_reducible refine And.intro (fun h=>by simp at h) ?_)
    refine wpAnyT_done (by kernel_rfl) ?_ _
    clear kf k0
    generalize wf2.setCell ⟨gi,tm,none⟩ (.slice A2 (s2.l.length+1) c2)=w5 at *
    go_wp2_with fail
    have HA:=HA2
    clear HA2 hfn htn
    replace HA:=Lib.hid (HA.out.later (Below.drew (Below.refl w5.heap.size w5)))
    refine wp_region_T (fun W=>W.cell? ⟨g,0,none⟩=some (.map (some mb))∧W.cell? ⟨g4,0,none⟩=some (.int .i64 (fm : Nat))∧W.cell? ⟨g4,1,none⟩=some (.int .i64 (tm : Nat))∧W.cell? ⟨g3,0,none⟩=some (.int .i64 (fm : Nat))∧W.cell? ⟨g3,1,none⟩=some (.int .i64 (tm : Nat))∧W.cell? ⟨g3,2,none⟩=some (.int .i64 en)∧W.cell? ⟨g3,3,none⟩=some (.int .i64 ev)) (fun i=>6≤i) (by kernel_rfl) HA.out.s7 (fun hHeld=>?_)
    refine wpAnyT_take2 (i:=0) (v:=?_) rfl rfl (by kernel_rfl) (by kernel_rfl) (by kernel_rfl) (by kernel_rfl) (fun _ _ _ h=>h) (Or.inl ⟨by rfl, ?_⟩) (by first | assumption | trivial) ?_
    rotate_left
    · (intro w hSw; (try dsimp only at hSw); go_simp) <;> (with_reducible rfl)
    simp only [List.setIfInBounds_toArray,List.set_cons_zero,List.set_cons_succ]
    refine wpAnyT_take2 (i:=1) (v:=?_) rfl rfl (by kernel_rfl) (by kernel_rfl) (by kernel_rfl) (by kernel_rfl) (fun _ _ _ h=>h) (Or.inl ⟨by rfl, ?_⟩) (by first | assumption | trivial) ?_
    rotate_left
    · (intro w hSw; (try dsimp only at hSw); go_simp) <;> (with_reducible rfl)
    simp only [List.setIfInBounds_toArray,List.set_cons_zero,List.set_cons_succ]
    refine wpAnyT_take2 (i:=2) (v:=?_) rfl rfl (by kernel_rfl) (by kernel_rfl) (by kernel_rfl) (by kernel_rfl) (fun _ _ _ h=>h) (Or.inl ⟨by rfl, ?_⟩) (by first | assumption | trivial) ?_
    rotate_left
    · (intro w hSw; (try dsimp only at hSw); go_simp) <;> (with_reducible rfl)
    simp only [List.setIfInBounds_toArray,List.set_cons_zero,List.set_cons_succ]
    refine wpAnyT_take2 (i:=3) (v:=?_) rfl rfl (by kernel_rfl) (by kernel_rfl) (by kernel_rfl) (by kernel_rfl) (fun _ _ _ h=>h) (Or.inl ⟨by rfl, ?_⟩) (by first | assumption | trivial) ?_
    rotate_left
    · (intro w hSw; (try dsimp only at hSw); go_simp) <;> (with_reducible rfl)
    simp only [List.setIfInBounds_toArray,List.set_cons_zero,List.set_cons_succ]
    refine wpAnyT_take2 (i:=4) (v:=?_) rfl rfl (by kernel_rfl) (by kernel_rfl) (by kernel_rfl) (by kernel_rfl) (fun _ _ _ h=>h) (Or.inl ⟨by rfl, ?_⟩) (by first | assumption | trivial) ?_
    rotate_left
    · (intro w hSw; (try dsimp only at hSw); go_simp) <;> (with_reducible rfl)
    simp only [List.setIfInBounds_toArray,List.set_cons_zero,List.set_cons_succ]
    refine wpAnyT_take2 (i:=5) (v:=?_) rfl rfl (by kernel_rfl) (by kernel_rfl) (by kernel_rfl) (by kernel_rfl) (fun _ _ _ h=>h) (Or.inl ⟨by rfl, ?_⟩) (by first | assumption | trivial) ?_
    rotate_left
    · (intro w hSw; (try dsimp only at hSw); go_simp) <;> (with_reducible rfl)
    simp only [List.setIfInBounds_toArray,List.set_cons_zero,List.set_cons_succ]
    clear hHeld
    generalize w5.drew=wd at *
    refine wpAnyT_next (i:=6) (by kernel_rfl) rfl ?_
    refine wpl_store_E rfl (.tmp 72) (.tmp 73) (.tmp 74) 52 rfl 44 (⟨(fm : Nat),(tm : Nat),en,ev⟩ : ED) Try.underlying52 HA.out.m.mp rfl rfl rfl HID.out.1 HID.out.2 ?_
    intro wn hmn hgn hszn
    rw [HLK.out] at hmn
    have HFI:=Lib.hid (HA.out.m.mapped hmn hgn)
    clear hmn hgn hszn HA
    go_wp2_with fail
    try simp only [QT]
    try (with_reducible refine And.intro (fun h=>by simp at h) ?_)
    refine wpAnyT_done (by kernel_rfl) ?_ _
    go_wp2_with fail
    go_end0
    skip
    obtain rfl : LN=l ++ [(⟨(fm : Nat),(tm : Nat),en,ev⟩ : ED)]:=HLN.out.symm.trans (addL_no HLK.out)
    refine ⟨rfl,_,_,HFI.out, ?_⟩
    have h:=HST.out.i.new (e:=(⟨(fm : Nat),(tm : Nat),en,ev⟩ : ED)) HF.out HTT.out HNE.out HLK.out (a:=s1.l) (b:=s2.l) (by simp only [Int.toNat_natCast]; rw [List.getElem?_map,HS1.out]; rfl) (by simp only [Int.toNat_natCast]; rw [List.getElem?_map,HS2.out]; rfl)
    simp only [Int.toNat_natCast] at h
    simp only [List.map_set]
    exact h
  · have hHeld:=HA.out.s2
    refine wpAnyT_take2 (i:=5) (v:=.tuple #[.agg #[.int .i64 x.f,.int .i64 x.t,.int .i64 x.n,.int .i64 x.v],.bool true]) rfl rfl (by kernel_rfl) (by kernel_rfl) (by kernel_rfl) (by kernel_rfl) (fun _ _ _ h=>h) (Or.inl ⟨by rfl, ?_⟩) (by first | assumption | trivial) ?_
    · exact fun W hW=>exec_look_yes rfl Try.underlying52 hW.2.2.2 rfl rfl HID.out.1 HID.out.2 HLK.out
    simp only [List.setIfInBounds_toArray,List.set_cons_zero,List.set_cons_succ]
    refine wpAnyT_take2 (i:=6) (v:=?_) rfl rfl (by kernel_rfl) (by kernel_rfl) (by kernel_rfl) (by kernel_rfl) (fun _ _ _ h=>h) (Or.inl ⟨by rfl, ?_⟩) (by first | assumption | trivial) ?_
    rotate_left
    · (intro w hSw; (try dsimp only at hSw); go_simp) <;> (with_reducible rfl)
    simp only [List.setIfInBounds_toArray,List.set_cons_zero,List.set_cons_succ]
    refine wpAnyT_take2 (i:=7) (v:=?_) rfl rfl (by kernel_rfl) (by kernel_rfl) (by kernel_rfl) (by kernel_rfl) (fun _ _ _ h=>h) (Or.inl ⟨by rfl, ?_⟩) (by first | assumption | trivial) ?_
    rotate_left
    · (intro w hSw; (try dsimp only at hSw); go_simp) <;> (with_reducible rfl)
    simp only [List.setIfInBounds_toArray,List.set_cons_zero,List.set_cons_succ]
    refine wpAnyT_take2 (i:=8) (v:=?_) rfl rfl (by kernel_rfl) (by kernel_rfl) (by kernel_rfl) (by kernel_rfl) (fun _ _ _ h=>h) (Or.inl ⟨by rfl, ?_⟩) (by first | assumption | trivial) ?_
    rotate_left
    · (intro w hSw; (try dsimp only at hSw); go_simp) <;> (with_reducible rfl)
    simp only [List.setIfInBounds_toArray,List.set_cons_zero,List.set_cons_succ]
    clear hHeld
    have hb5 : ∀ o,Below wd.heap.size wd (wd.alloc o):=fun o=>(Below.refl _ _).alloc (Nat.le_refl _) _
    refine wpAnyT_next (i:=9) (by kernel_rfl) rfl ?_
    go_wp2_with fail
    refine And.intro (by first | exact fun _=>(HA.out.later (hb5 _)).s2 | exact (HA.out.later (hb5 _)).s2) ?_
    refine wpAnyT_next (i:=10) (by kernel_rfl) rfl ?_
    go_wp2_with fail
    refine And.intro (by first | exact fun _=>(HA.out.later (hb5 _)).s2 | exact (HA.out.later (hb5 _)).s2) ?_
    have HB5 : Hid (Blk (wd.alloc (.cells #[.int .i64 (x.f),.int .i64 (x.t),.int .i64 (x.n),.int .i64 (x.v)] 44)) wd.heap.size 44 #[.int .i64 (x.f),.int .i64 (x.t),.int .i64 (x.n),.int .i64 (x.v)]):=Lib.hid (Blk.new _ _ _)
    replace HA:=Lib.hid (HA.out.later (hb5 (.cells #[.int .i64 (x.f),.int .i64 (x.t),.int .i64 (x.n),.int .i64 (x.v)] 44)))
    clear hb5
    generalize wd.alloc (.cells #[.int .i64 (x.f),.int .i64 (x.t),.int .i64 (x.n),.int .i64 (x.v)] 44)=w5 at *
    generalize wd.heap.size=g5 at *
    have hHeld:=HA.out.s2
    refine wpAnyT_take2 (i:=11) (v:=?_) rfl rfl (by kernel_rfl) (by kernel_rfl) (by kernel_rfl) (by kernel_rfl) (fun _ _ _ h=>h) (Or.inl ⟨by rfl, ?_⟩) (by first | assumption | trivial) ?_
    rotate_left
    · (intro w hSw; (try dsimp only at hSw); go_simp) <;> (with_reducible rfl)
    simp only [List.setIfInBounds_toArray,List.set_cons_zero,List.set_cons_succ]
    refine wpAnyT_done (by kernel_rfl) ?_ _
    clear hHeld
    have a3:=HA.out.b3.cell 2
    have a3z:=HA.out.b3.lt
    obtain ⟨c0,c1,c2,c3,cf,cz⟩:=HB5.out.b4
    by_cases hle : x.n≤en
    · go_wp2_with fail
      try simp only [Exit.inBlock,Exit.then]
      refine bodyPost_ret (results_none rfl _ _ _) rfl ?_
      obtain rfl : LN=l:=HLN.out.symm.trans (addL_old (o:=x) HLK.out (by simp only; omega))
      exact ⟨rfl,ins,outs,HA.out.m,HST.out.i⟩
    · replace hle:=Int.not_le.1 hle
      go_wp2_with fail
      clear a3 a3z c0 c1 c2 c3 cf cz HB5
      have HLE:=Lib.hid hle
      clear hle
      replace HA:=Lib.hid (HA.out.later (Below.drew (Below.refl w5.heap.size w5)))
      refine wp_region_T (fun W=>W.cell? ⟨g,0,none⟩=some (.map (some mb))∧W.cell? ⟨g4,0,none⟩=some (.int .i64 (fm : Nat))∧W.cell? ⟨g4,1,none⟩=some (.int .i64 (tm : Nat))∧W.cell? ⟨g3,0,none⟩=some (.int .i64 (fm : Nat))∧W.cell? ⟨g3,1,none⟩=some (.int .i64 (tm : Nat))∧W.cell? ⟨g3,2,none⟩=some (.int .i64 en)∧W.cell? ⟨g3,3,none⟩=some (.int .i64 ev)) (fun i=>6≤i) (by kernel_rfl) HA.out.s7 (fun hHeld=>?_)
      refine wpAnyT_take2 (i:=0) (v:=?_) rfl rfl (by kernel_rfl) (by kernel_rfl) (by kernel_rfl) (by kernel_rfl) (fun _ _ _ h=>h) (Or.inl ⟨by rfl, ?_⟩) (by first | assumption | trivial) ?_
      rotate_left
      · (intro w hSw; (try dsimp only at hSw); go_simp) <;> (with_reducible rfl)
      simp only [List.setIfInBounds_toArray,List.set_cons_zero,List.set_cons_succ]
      refine wpAnyT_take2 (i:=1) (v:=?_) rfl rfl (by kernel_rfl) (by kernel_rfl) (by kernel_rfl) (by kernel_rfl) (fun _ _ _ h=>h) (Or.inl ⟨by rfl, ?_⟩) (by first | assumption | trivial) ?_
      rotate_left
      · (intro w hSw; (try dsimp only at hSw); go_simp) <;> (with_reducible rfl)
      simp only [List.setIfInBounds_toArray,List.set_cons_zero,List.set_cons_succ]
      refine wpAnyT_take2 (i:=2) (v:=?_) rfl rfl (by kernel_rfl) (by kernel_rfl) (by kernel_rfl) (by kernel_rfl) (fun _ _ _ h=>h) (Or.inl ⟨by rfl, ?_⟩) (by first | assumption | trivial) ?_
      rotate_left
      · (intro w hSw; (try dsimp only at hSw); go_simp) <;> (with_reducible rfl)
      simp only [List.setIfInBounds_toArray,List.set_cons_zero,List.set_cons_succ]
      refine wpAnyT_take2 (i:=3) (v:=?_) rfl rfl (by kernel_rfl) (by kernel_rfl) (by kernel_rfl) (by kernel_rfl) (fun _ _ _ h=>h) (Or.inl ⟨by rfl, ?_⟩) (by first | assumption | trivial) ?_
      rotate_left
      · (intro w hSw; (try dsimp only at hSw); go_simp) <;> (with_reducible rfl)
      simp only [List.setIfInBounds_toArray,List.set_cons_zero,List.set_cons_succ]
      refine wpAnyT_take2 (i:=4) (v:=?_) rfl rfl (by kernel_rfl) (by kernel_rfl) (by kernel_rfl) (by kernel_rfl) (fun _ _ _ h=>h) (Or.inl ⟨by rfl, ?_⟩) (by first | assumption | trivial) ?_
      rotate_left
      · (intro w hSw; (try dsimp only at hSw); go_simp) <;> (with_reducible rfl)
      simp only [List.setIfInBounds_toArray,List.set_cons_zero,List.set_cons_succ]
      refine wpAnyT_take2 (i:=5) (v:=?_) rfl rfl (by kernel_rfl) (by kernel_rfl) (by kernel_rfl) (by kernel_rfl) (fun _ _ _ h=>h) (Or.inl ⟨by rfl, ?_⟩) (by first | assumption | trivial) ?_
      rotate_left
      · (intro w hSw; (try dsimp only at hSw); go_simp) <;> (with_reducible rfl)
      simp only [List.setIfInBounds_toArray,List.set_cons_zero,List.set_cons_succ]
      clear hHeld
      generalize w5.drew=wd at *
      refine wpAnyT_next (i:=6) (by kernel_rfl) rfl ?_
      refine wpl_store_E rfl (.tmp 72) (.tmp 73) (.tmp 74) 52 rfl 44 (⟨(fm : Nat),(tm : Nat),en,ev⟩ : ED) Try.underlying52 HA.out.m.mp rfl rfl rfl HID.out.1 HID.out.2 ?_
      intro wn hmn hgn hszn
      rw [HLK.out] at hmn
      have HFI:=Lib.hid (HA.out.m.mapped hmn hgn)
      clear hmn hgn hszn HA
      go_wp2_with fail
      try simp only [QT]
      try (with_reducible refine And.intro (fun h=>by simp at h) ?_)
      refine wpAnyT_done (by kernel_rfl) ?_ _
      go_wp2_with fail
      go_end0
      skip
      obtain rfl : LN=putE (⟨(fm : Nat),(tm : Nat),en,ev⟩ : ED) l:=HLN.out.symm.trans (addL_put (o:=x) HLK.out HLE.out)
      exact ⟨rfl,ins,outs,HFI.out,HST.out.i.put HF.out HTT.out HNE.out⟩
end Go.Proofs.Ytlbihfbeamlacaa
