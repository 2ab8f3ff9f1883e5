/- Walks: OnesCount, TrailingZeros, why.list. -/
import Derived.Test.YtmomlipmpgcheaaGreatDoorWbxaf
import Derived.Test.YtmomlipmpgcheaaGreatDoorWbxag
set_option linter.unusedSimpArgs false
set_option linter.unusedVariables false
set_option maxRecDepth 100000
set_option maxHeartbeats 6400000
namespace Go.Proofs.YtmomlipmpgcheaaGreatDoor
open Go.RowKit
theorem ones64 {m : Nat} (h : m<16) (w : World) : Calls Tryz.prog 75 #[.int .u64 m] w fun e w'=>e = .returned (.int .i64 (bitL 4 m).length)∧w=w':=by
  rcases small_cases h with rfl | rfl | rfl | rfl | rfl | rfl | rfl | rfl | rfl | rfl | rfl | rfl | rfl | rfl | rfl | rfl
  · rw [show ((bitL 4 0).length : Int)=0 by kernel_rfl]; exact ones_0 w
  · rw [show ((bitL 4 1).length : Int)=1 by kernel_rfl]; exact ones_1 w
  · rw [show ((bitL 4 2).length : Int)=1 by kernel_rfl]; exact ones_2 w
  · rw [show ((bitL 4 3).length : Int)=2 by kernel_rfl]; exact ones_3 w
  · rw [show ((bitL 4 4).length : Int)=1 by kernel_rfl]; exact ones_4 w
  · rw [show ((bitL 4 5).length : Int)=2 by kernel_rfl]; exact ones_5 w
  · rw [show ((bitL 4 6).length : Int)=2 by kernel_rfl]; exact ones_6 w
  · rw [show ((bitL 4 7).length : Int)=3 by kernel_rfl]; exact ones_7 w
  · rw [show ((bitL 4 8).length : Int)=1 by kernel_rfl]; exact ones_8 w
  · rw [show ((bitL 4 9).length : Int)=2 by kernel_rfl]; exact ones_9 w
  · rw [show ((bitL 4 10).length : Int)=2 by kernel_rfl]; exact ones_10 w
  · rw [show ((bitL 4 11).length : Int)=3 by kernel_rfl]; exact ones_11 w
  · rw [show ((bitL 4 12).length : Int)=2 by kernel_rfl]; exact ones_12 w
  · rw [show ((bitL 4 13).length : Int)=3 by kernel_rfl]; exact ones_13 w
  · rw [show ((bitL 4 14).length : Int)=3 by kernel_rfl]; exact ones_14 w
  · rw [show ((bitL 4 15).length : Int)=4 by kernel_rfl]; exact ones_15 w
def lowN (m : Nat) : Nat:=(bitL 4 m).headD 0
def clrN (m : Nat) : Nat:=m &&& (m - 1)
theorem tz64 {m : Nat} (h : m<16) (h0 : m≠0) (w : World) (ht : TabW w) : Calls Tryz.prog 77 #[.int .u64 m] w fun e w'=>e = .returned (.int .i64 (lowN m))∧w=w':=by
  rcases small_cases h with rfl | rfl | rfl | rfl | rfl | rfl | rfl | rfl | rfl | rfl | rfl | rfl | rfl | rfl | rfl | rfl
  · exact absurd rfl h0
  · rw [show ((lowN 1 : Nat) : Int)=0 by kernel_rfl]; exact tz_1 w ht
  · rw [show ((lowN 2 : Nat) : Int)=1 by kernel_rfl]; exact tz_2 w ht
  · rw [show ((lowN 3 : Nat) : Int)=0 by kernel_rfl]; exact tz_3 w ht
  · rw [show ((lowN 4 : Nat) : Int)=2 by kernel_rfl]; exact tz_4 w ht
  · rw [show ((lowN 5 : Nat) : Int)=0 by kernel_rfl]; exact tz_5 w ht
  · rw [show ((lowN 6 : Nat) : Int)=1 by kernel_rfl]; exact tz_6 w ht
  · rw [show ((lowN 7 : Nat) : Int)=0 by kernel_rfl]; exact tz_7 w ht
  · rw [show ((lowN 8 : Nat) : Int)=3 by kernel_rfl]; exact tz_8 w ht
  · rw [show ((lowN 9 : Nat) : Int)=0 by kernel_rfl]; exact tz_9 w ht
  · rw [show ((lowN 10 : Nat) : Int)=1 by kernel_rfl]; exact tz_10 w ht
  · rw [show ((lowN 11 : Nat) : Int)=0 by kernel_rfl]; exact tz_11 w ht
  · rw [show ((lowN 12 : Nat) : Int)=2 by kernel_rfl]; exact tz_12 w ht
  · rw [show ((lowN 13 : Nat) : Int)=0 by kernel_rfl]; exact tz_13 w ht
  · rw [show ((lowN 14 : Nat) : Int)=1 by kernel_rfl]; exact tz_14 w ht
  · rw [show ((lowN 15 : Nat) : Int)=0 by kernel_rfl]; exact tz_15 w ht
theorem bits_low : ∀ m,m<16→m≠0→bitL 4 m=lowN m :: bitL 4 (clrN m)∧clrN m<m:=by decide
theorem bits_clr {m : Nat} (h : m<16) (h0 : m≠0) : bits BinOp.and IntKind.i64 (m : Int) ((m : Int) - 1)=((clrN m : Nat) : Int):=by
  rcases small_cases h with rfl | rfl | rfl | rfl | rfl | rfl | rfl | rfl | rfl | rfl | rfl | rfl | rfl | rfl | rfl | rfl
  · exact absurd rfl h0
  · kernel_rfl
  · kernel_rfl
  · kernel_rfl
  · kernel_rfl
  · kernel_rfl
  · kernel_rfl
  · kernel_rfl
  · kernel_rfl
  · kernel_rfl
  · kernel_rfl
  · kernel_rfl
  · kernel_rfl
  · kernel_rfl
  · kernel_rfl
  · kernel_rfl
theorem bits_ones {m : Nat} (h : m<16) (w : World) : Calls Tryz.prog 56 #[.int .u64 m] w fun e w'=>e = .returned (.int .i64 (bitL 4 m).length)∧w=w':=by
  have hc:=ones64 h w
  go_enter Tryz.func56,Tryz.ntmps56
  go_wp2_with fail
  refine hc.mono ?_
  clear hc
  rintro e w' ⟨rfl,rfl⟩
  go_wp2_with fail
  go_ret
  exact ⟨rfl,rfl⟩
theorem bits_tz {m : Nat} (h : m<16) (h0 : m≠0) (w : World) (ht : TabW w) : Calls Tryz.prog 59 #[.int .u64 m] w fun e w'=>e = .returned (.int .i64 (lowN m))∧w=w':=by
  have hc:=tz64 h h0 w ht
  go_enter Tryz.func59,Tryz.ntmps59
  go_wp2_with fail
  refine hc.mono ?_
  clear hc
  rintro e w' ⟨rfl,rfl⟩
  go_wp2_with fail
  go_ret
  exact ⟨rfl,rfl⟩
def intL (l : List Nat) : List Int:=l.map fun i : Nat=>(i : Int)
theorem intL_len (l : List Nat) : (intL l).length=l.length:=by simp [intL]
theorem intL_cons (a : Nat) (l : List Nat) : intL (a :: l)=(a : Int) :: intL l:=rfl
def ListP (w w' : World) (l : List Nat) (r : Ending) : Prop:=Below w.heap.size w w'∧∃ (A : Option Addr) (c : Nat),r = .returned (.slice A (intL l).length c)∧Own w.heap.size 3 1 ienc w' ⟨A,c,intL l⟩
theorem rd_ints {W : World} {g : Nat} {t : TypeId} {x : Int} (h : Blk W g t #[.int .i64 x]) : Rd (· < W.heap.size) 1 ienc W ⟨some ⟨g,0,none⟩,1,[x]⟩ :=
  ⟨Nat.le_refl _,by unfold maxLen; simp,fun h=>by simp at h,fun i y hy=>by
    have hi : i=0:=by
      rcases i with _ | i
      · rfl
      · simp at hy
    subst hi
    have hxy : x=y:=by simpa using hy
    subst hxy
    exact ⟨g,0,rfl,h.lt,fun j u hu=>by
      rw [Nat.zero_mul,Nat.add_zero,Nat.zero_add,h.cell]
      simpa [ienc] using hu⟩⟩
theorem own_geI {α : Type} {base k : Nat} {e : TypeId} {enc : α→List Value} {w : World} {s : Sl α} (h : Own base e k enc w s) : ∀ g,(Value.slice s.A s.l.length s.c).ownBlock=some g→base≤g:=by
  intro g hg
  rcases h.form with ⟨hA,_,_⟩ | ⟨g0,hA,hb,_⟩
  · rw [hA] at hg; simp [Value.ownBlock] at hg
  · rw [hA] at hg; simp [Value.ownBlock] at hg; omega
theorem why_list {m : Nat} (h : m<16) (w : World) (ht : TabW w) : Calls Tryz.prog 36 #[.int .i64 m] w fun r w'=>ListP w w' (bitL 4 m) r:=by
  have HT:=Lib.hid ht
  clear ht
  unfold ListP
  obtain ⟨V,hV⟩ : ∃ V,intL (bitL 4 m)=V:=⟨_,rfl⟩
  rw [hV]
  have HV:=Lib.hid hV
  clear hV
  go_enter Tryz.func36,Tryz.ntmps36
  go_wp2_with fail
  go_loopw [0,3] (fun mv o wr=>∃ (k : Nat) (A : Option Addr) (c : Nat) (out : List Int),k<16∧mv = .int .i64 k∧o = .slice A out.length c∧Hid (Below w.heap.size w wr)∧Hid (Own w.heap.size 3 1 ienc wr ⟨A,c,out⟩)∧Hid (V=out ++ intL (bitL 4 k))∧out.length+k<100) (fun mv _ _=>(intOf mv).toNat)
  case atStart=>exact ⟨m,none,0,[],h,rfl,rfl,Lib.hid (Below.refl _ _),Lib.hid (Own.nil _ _ _ _ _),Lib.hid (by rw [← HV.out]; rfl),by simp; omega⟩
  case round =>
    obtain ⟨k,A,c,out,hk,rfl,rfl,HB,HO,HG,hol⟩:=hrel
    clear HV
    by_cases h0 : k=0
    · subst h0
      have HF : Hid (V=out):=Lib.hid (by rw [HG.out,bitL_zero]; simp [intL])
      clear HG hol
      go_wp2_with fail
      go_ret
      rw [HF.out]
      exact ⟨HB.out,A,c,rfl,HO.out⟩
    · have h0b : ((k : Int) != 0)=true:=by simp; omega
      obtain ⟨hb1,hb2⟩:=bits_low k hk h0
      have hand:=bits_clr hk h0
      have HG2 : Hid (V=(out ++ [((lowN k : Nat) : Int)]) ++ intL (bitL 4 (clrN k))):=Lib.hid (by rw [HG.out,hb1,intL_cons]; simp)
      have hc:=bits_tz hk h0 wr (HT.out.later HB.out)
      obtain ⟨lo,hlo⟩ : ∃ x,lowN k=x:=⟨_,rfl⟩
      obtain ⟨kc,hkc⟩ : ∃ x,clrN k=x:=⟨_,rfl⟩
      rw [hlo] at HG2 hc
      rw [hkc] at HG2 hand hb2
      clear hb1 HG h0 hlo hkc
      go_wp2_with fail
      refine hc.mono ?_
      clear hc
      rintro r w2 ⟨rfl,rfl⟩
      have hro:=rd_ints (Blk.new wr 3 #[.int .i64 (lo : Int)])
      go_wp2_with (at_builtin
                   go_must (refine wpl_append_sl _ rfl (.tmp 10) (.tmp 14) _ rfl Tryz.underlying37 infoInt (by omega) ienc_k ienc_one ⟨A,c,out⟩ ⟨some ⟨wr.heap.size,0,none⟩,1,[(lo : Int)]⟩ rfl rfl (HO.out.alloc _) hro (by simp [maxLen]; omega) (by simp; omega) (by have:=HB.out.size; simp; omega) ?_)
                   intro A1 c1 w4 hown hg hAA)
      have hbz:=(HB.out.alloc HB.out.size (.cells #[.int .i64 (lo : Int)] 3)).grown hg (by have:=HB.out.size; simp; omega) (fun m hm=>by have:=own_geI HO.out m hm; omega)
      have HB4:=Lib.hid hbz
      have HO4:=Lib.hid hown
      clear hbz hown hg hAA hro
      go_wp2_with (simp only [hand])
      go_roundw
      case rel=>exact ⟨kc,A1,c1,out ++ [(lo : Int)],by omega,rfl,by simp,HB4,HO4,HG2,by simp; omega⟩
      case measure=>simp [intOf]; omega
def ordV (a b : Nat) : Int:=orI (cmpW ((bitL 4 a).length : Int) ((bitL 4 b).length : Int)) (cmpL (intL (bitL 4 a)) (intL (bitL 4 b)))
theorem cmpL_lt : ∀ a b : List Nat,a.length=b.length→(cmpL (intL a) (intL b)<0↔lexB a b=true)
  | [],[],_=>by simp [intL,cmpL,lexB]
  | [],_ :: _,h=>by simp at h
  | _ :: _,[],h=>by simp at h
  | x :: a,y :: b,h=>by
    simp only [List.length_cons,Nat.add_right_cancel_iff] at h
    rw [intL_cons,intL_cons,lexB]
    rcases Nat.lt_trichotomy x y with hxy | hxy | hxy
    · have hc : cmpW (x : Int) (y : Int) = -1:=cmpW_lt (by omega)
      rw [cmpL_ne (by rw [hc]; decide),hc,if_neg (by omega)]
      simp [hxy]
    · subst hxy
      rw [cmpL_eq (cmpW_eq rfl),if_pos rfl]
      exact cmpL_lt a b h
    · have hc : cmpW (x : Int) (y : Int)=1:=cmpW_gt (by omega)
      rw [cmpL_ne (by rw [hc]; decide),hc,if_neg (by omega)]
      have : ¬ x<y:=by omega
      simp [this]
theorem ordV_lt (a b : Nat) : ordV a b<0↔betB (bitL 4 a) (bitL 4 b)=true:=by
  unfold ordV betB orI
  rcases Nat.lt_trichotomy (bitL 4 a).length (bitL 4 b).length with h | h | h
  · have hc : cmpW ((bitL 4 a).length : Int) ((bitL 4 b).length : Int) = -1:=cmpW_lt (by omega)
    rw [hc,if_pos (by decide),if_neg (by omega)]
    simp [h]
  · rw [h,cmpW_eq rfl,if_neg (by decide),if_pos rfl]
    exact cmpL_lt _ _ h
  · have hc : cmpW ((bitL 4 a).length : Int) ((bitL 4 b).length : Int)=1:=cmpW_gt (by omega)
    rw [hc,if_pos (by decide),if_neg (by omega)]
    have : ¬ (bitL 4 a).length<(bitL 4 b).length:=by omega
    simp [this]
theorem why_order {a b : Nat} (ha : a<16) (hb : b<16) (w : World) (ht : TabW w) : Calls Tryz.prog 32 #[.int .i64 a,.int .i64 b] w fun r w'=>r = .returned (.int .i64 (ordV a b))∧Below w.heap.size w w':=by
  have HT:=Lib.hid ht
  clear ht
  have HV : Hid (ordV a b=orI (cmpW ((bitL 4 a).length : Int) ((bitL 4 b).length : Int)) (cmpL (intL (bitL 4 a)) (intL (bitL 4 b)))):=Lib.hid rfl
  have HCA:=Lib.hid (fun W=>bits_ones ha W)
  have HCB:=Lib.hid (fun W=>bits_ones hb W)
  have HLA:=Lib.hid (fun W (h : TabW W)=>why_list ha W h)
  have HLB:=Lib.hid (fun W (h : TabW W)=>why_list hb W h)
  obtain ⟨V,hV⟩ : ∃ V,ordV a b=V:=⟨_,rfl⟩
  obtain ⟨la,hla⟩ : ∃ V,bitL 4 a=V:=⟨_,rfl⟩
  obtain ⟨lb,hlb⟩ : ∃ V,bitL 4 b=V:=⟨_,rfl⟩
  rw [hV,hla,hlb] at HV
  rw [hla] at HCA HLA
  rw [hlb] at HCB HLB
  rw [hV]
  clear hV hla hlb
  go_enter Tryz.func32,Tryz.ntmps32
  go_wp2_with fail
  refine (HCA.out _).mono ?_
  rintro e w' ⟨rfl,rfl⟩
  go_wp2_with fail
  refine (HCB.out _).mono ?_
  rintro e w' ⟨rfl,rfl⟩
  go_wp2_with fail
  refine (cmp_intW _ _ _).mono ?_
  rintro e w' ⟨rfl,rfl⟩
  obtain ⟨q,hq⟩ : ∃ q,cmpW (la.length : Int) (lb.length : Int)=q:=⟨_,rfl⟩
  rw [hq] at HV ⊢
  clear hq
  go_wp2_with fail
  refine (HLA.out _ HT.out).mono ?_
  rintro e w1 ⟨hb1,A,c,rfl,ho1⟩
  have HB1:=Lib.hid hb1
  have HO1:=Lib.hid ho1
  clear hb1 ho1
  go_wp2_with fail
  refine (HLB.out _ (HT.out.later HB1.out)).mono ?_
  rintro e w2 ⟨hb2,B,d,rfl,ho2⟩
  have HB2:=Lib.hid (HB1.out.trans (hb2.mono HB1.out.size))
  have hr1:=((HO1.out.below hb2).rd ienc_k).mono (G:=fun b=>b<w2.heap.size) (fun b hb=>hb.2)
  have hr2:=(ho2.rd ienc_k).mono (G:=fun b=>b<w2.heap.size) (fun b hb=>hb.2)
  have hc:=slices_Compare ⟨A,c,intL la⟩ ⟨B,d,intL lb⟩ w2 hr1 hr2
  simp only at hc
  clear hb2 ho2 HO1 HB1 hr1 hr2
  go_wp2_with fail
  refine hc.mono ?_
  clear hc
  rintro e w' ⟨rfl,rfl⟩
  obtain ⟨p,hp⟩ : ∃ q,cmpL (intL la) (intL lb)=q:=⟨_,rfl⟩
  rw [hp] at HV ⊢
  clear hp
  go_wp2_with fail
  have hal : Below w2.heap.size w2 (w2.alloc (.cells #[.int .i64 q,.int .i64 p] 3)):=(Below.refl _ _).alloc (Nat.le_refl _) _
  have HB3:=Lib.hid (HB2.out.trans (hal.mono HB2.out.size))
  have hbk : Blk (w2.alloc (.cells #[.int .i64 q,.int .i64 p] 3)) w2.heap.size 3 #[.int .i64 q,.int .i64 p]:=Blk.new _ _ _
  refine (or_int q p w2.heap.size _ (hbk.cell 0) (hbk.cell 1)).mono ?_
  rintro e w' ⟨rfl,rfl⟩
  clear hal hbk
  go_wp2_with fail
  go_ret
  exact ⟨ret_int HV.out.symm,HB3.out⟩
def idxP {α : Type} (p : α→Bool) : Nat→List α→Int
  | _,[]=>-1
  | k,x :: l=>if p x then (k : Int) else idxP p (k+1) l
theorem idxP_ge {α : Type} (p : α→Bool) : ∀ (l : List α) (k : Nat),(idxP p k l = -1∧∀ x ∈ l,p x=false)∨∃ (j : Nat) (x : α),idxP p k l=((k+j : Nat) : Int)∧l[j]? = some x∧p x=true∧∀ y ∈ l.take j,p y=false
 | [],k=>.inl ⟨rfl,by simp⟩
 | x :: r,k=>by
  unfold idxP;by_cases h : p x=true
  ·rw [if_pos h]; exact .inr ⟨0,x,rfl,rfl,h,by simp⟩
  ·rw [if_neg h];(have hf : p x=false:=by simpa using h);rcases idxP_ge p r (k+1) with ⟨h1,h2⟩ | ⟨j,y,h1,h2,h3,h4⟩
   ·exact .inl ⟨h1,fun y hy=>by rcases List.mem_cons.1 hy with rfl | hy; exact hf; exact h2 y hy⟩
   ·refine .inr ⟨j+1,y,by rw [h1]; congr 1; omega,by simpa using h2,h3,fun z hz=>?_⟩;rw [List.take_succ_cons] at hz;rcases List.mem_cons.1 hz with rfl | hz
    ·exact hf
    ·exact h4 z hz
inductive PT where
  | mk (op n un : Int) (s : ByteArray) (A : Option Addr) (c : Nat) (l : List PT)
def PT.op : PT→Int | ⟨o,_,_,_,_,_,_⟩=>o
def PT.n : PT→Int | ⟨_,n,_,_,_,_,_⟩=>n
def PT.un : PT→Int | ⟨_,_,u,_,_,_,_⟩=>u
def PT.s : PT→ByteArray | ⟨_,_,_,s,_,_,_⟩=>s
def PT.a : PT→Sl PT | ⟨_,_,_,_,A,c,l⟩=>⟨A,c,l⟩
def PT.enc : PT→List Value | ⟨o,n,u,s,A,c,l⟩=>[.int .i64 o,.int .i64 n,.int .i64 u,.string s,.slice A l.length c]
def PT.v : PT→Value | ⟨o,n,u,s,A,c,l⟩=>.agg #[.int .i64 o,.int .i64 n,.int .i64 u,.string s,.slice A l.length c]
inductive PT.At (F : Nat→Prop) (w : World) : PT→Prop
  | mk {o n u : Int} {s : ByteArray} {A : Option Addr} {c : Nat} {l : List PT} : s.size≤9223372036854775807→Rd F 5 PT.enc w ⟨A,c,l⟩→(∀ x,x ∈ l→PT.At F w x)→PT.At F w ⟨o,n,u,s,A,c,l⟩
theorem PT.At.keep {F G : Nat→Prop} {w w' : World} {e : PT} (h : PT.At F w e) (hk : ∀ b,F b→w'.heap[b]? = w.heap[b]?) (hFG : ∀ b,F b→G b) : PT.At G w' e:=by
 induction h with
 | mk hs hr _ ih=>exact .mk hs ((hr.keep hk).mono hFG) ih
theorem PT.At.later {w w' : World} {e : PT} (h : PT.At (· < w.heap.size) w e) (hb : Below w.heap.size w w') : PT.At (· < w'.heap.size) w' e :=
 h.keep (fun b hb'=>hb.block b hb') (fun b hb'=>Nat.lt_of_lt_of_le hb' hb.size)
theorem PT.At.rd {F : Nat→Prop} {w : World} {e : PT} (h : PT.At F w e) : Rd F 5 PT.enc w e.a:=by cases h with | mk hs hr _=>exact hr
theorem PT.At.all {F : Nat→Prop} {w : World} {e : PT} (h : PT.At F w e) : ∀ x,x ∈ e.a.l→PT.At F w x:=by cases h with | mk hs hr hm=>exact hm
theorem PT.At.str {F : Nat→Prop} {w : World} {e : PT} (h : PT.At F w e) : e.s.size≤9223372036854775807:=by cases h with | mk hs hr hm=>exact hs
theorem idxI_in (l : Sl Int) (p : Int→Bool) (g h : Nat) (w : World) (hr : Rd (· < w.heap.size) 1 ienc w l) (hp : ∀ W x,x ∈ l.l→Below w.heap.size w W→Calls Tryz.prog 165 (#[.int .i64 x] ++ #[.pointer (some ⟨g,0,none⟩),.pointer (some ⟨h,0,none⟩)]) W fun e w'=>e = .returned (.bool (p x))∧Below W.heap.size W w') : Calls Tryz.prog 58 #[.slice l.A l.l.length l.c,.func (.func 165) #[] #[.pointer (some ⟨g,0,none⟩),.pointer (some ⟨h,0,none⟩)]] w fun e w'=>e = .returned (.int .i64 (idxP p 0 l.l))∧Below w.heap.size w w':=by
 obtain ⟨A,c,l⟩:=l;have hn:=hr.len;simp only at hn;have HR:=Zh hr;clear hr;simp only;simp only at hp;go_enter Tryz.func58,Tryz.ntmps58;go_wp2_with fail;go_loopw [5,8] (fun u i wr=>∃ (k : Nat),k≤l.length∧i = .int .i64 k∧Below w.heap.size w wr∧Hid (idxP p 0 l=idxP p k (l.drop k))) (fun _ i _=>l.length - (intOf i).toNat)
 case atStart=>exact ⟨0,by omega,rfl,qbl,Zh Zs⟩
 case round =>
  obtain ⟨k,hk,rfl,hbel,HG⟩:=hrel;have hhe : w.heap.size≤wr.heap.size:=hbel.size;by_cases hlt : k<l.length
  ·obtain ⟨b,o,rfl,hb,hcl⟩:=HR.out.at1 hlt;have hcl2:=hcl.keep (hbel.block b hb);have hd : l.drop k=l[k] :: l.drop (k+1):=List.drop_eq_getElem_cons hlt;have hgo:=HG.out;rw [hd] at hgo;have HGO:=Zh hgo;have hcall:=hp wr l[k] (List.getElem_mem hlt) hbel;clear hd hgo hcl HG hp;generalize l[k]=x at *;obtain ⟨bq,hb0⟩ : ∃ bq,p x=bq:=⟨_,rfl⟩;rw [hb0] at hcall;have HB0:=Zh hb0;clear hb0;have g0:=hcl2.c1;simp only [Nat.mul_one] at g0;clear hcl2;rcases bq
   ·go_wp2_with fail;refine hcall.mono ?_;clear hcall;rintro e w1 ⟨rfl,hb1⟩;have hB1 : Below w.heap.size w w1:=qbv;clear hb1;go_wp2_with fail;go_roundw
    case rel=>exact ⟨k+1,by omega,by go_num,hB1,Zh (by rw [HGO.out,idxP,HB0.out]; rfl)⟩
    case measure=>simp [intOf]; omega
   ·go_wp2_with fail;refine hcall.mono ?_;clear hcall;rintro e w1 ⟨rfl,hb1⟩;have hB1 : Below w.heap.size w w1:=qbv;clear hb1;go_wp2_with fail;go_ret;exact ⟨ret_int (by rw [HGO.out,idxP,HB0.out]; rfl),hB1⟩
  ·have hkl : l.drop k=[]:=List.drop_eq_nil_of_le Zo;have hgo:=HG.out;rw [hkl] at hgo;have HGO:=Zh hgo;clear hkl hgo HG;go_wp2_with fail;go_ret;exact ⟨ret_int (by rw [HGO.out]; rfl),hbel⟩
theorem hasI_in (l : Sl Int) (p : Int→Bool) (g h : Nat) (w : World) (hr : Rd (· < w.heap.size) 1 ienc w l) (hp : ∀ W x,x ∈ l.l→Below w.heap.size w W→Calls Tryz.prog 165 (#[.int .i64 x] ++ #[.pointer (some ⟨g,0,none⟩),.pointer (some ⟨h,0,none⟩)]) W fun e w'=>e = .returned (.bool (p x))∧Below W.heap.size W w') : Calls Tryz.prog 34 #[.slice l.A l.l.length l.c,.func (.func 165) #[] #[.pointer (some ⟨g,0,none⟩),.pointer (some ⟨h,0,none⟩)]] w fun e w'=>e = .returned (.bool (l.l.any p))∧Below w.heap.size w w':=by
 have hcon:=idxI_in l p g h w hr hp;clear hp hr;rcases idxP_ge p l.l 0 with ⟨h1,h2⟩ | ⟨j,x,h1,h2,h3,h4⟩
 ·rw [h1] at hcon;have HV:=Zh (show false=l.l.any p from (List.any_eq_false.2 (fun x hx=>by simpa using h2 x hx)).symm);clear h1 h2;go_enter Tryz.func34,Tryz.ntmps34;go_wp2_with fail;refine hcon.mono ?_;clear hcon;rintro e w1 ⟨rfl,hb1⟩;go_wp2_with fail;go_ret;exact ⟨ret_bool HV.out,hb1⟩
 ·rw [h1] at hcon;have HV:=Zh (show true=l.l.any p from (List.any_eq_true.2 ⟨x,List.mem_of_getElem? h2,h3⟩).symm);clear h1 h2 h3 h4;go_enter Tryz.func34,Tryz.ntmps34;go_wp2_with fail;refine hcon.mono ?_;clear hcon;rintro e w1 ⟨rfl,hb1⟩;go_wp2_with fail;go_ret;exact ⟨ret_bool HV.out,hb1⟩
theorem idxE_r (l : Sl PT) (p : PT→Bool) (g : Nat) (w : World) (hr : Rd (· < w.heap.size) 5 PT.enc w l) (hp : ∀ W x,x ∈ l.l→Below w.heap.size w W→Calls Tryz.prog 143 (#[x.v] ++ #[.pointer (some ⟨g,0,none⟩)]) W fun e w'=>e = .returned (.bool (p x))∧Below W.heap.size W w') : Calls Tryz.prog 166 #[.slice l.A l.l.length l.c,.func (.func 143) #[] #[.pointer (some ⟨g,0,none⟩)]] w fun e w'=>e = .returned (.int .i64 (idxP p 0 l.l))∧Below w.heap.size w w':=by
 obtain ⟨A,c,l⟩:=l;have hn:=hr.len;simp only at hn;have HR:=Zh hr;clear hr;simp only;simp only at hp;go_enter Tryz.func166,Tryz.ntmps166;go_wp2_with fail;go_loopw [5,8] (fun u i wr=>∃ (k : Nat),k≤l.length∧i = .int .i64 k∧Below w.heap.size w wr∧Hid (idxP p 0 l=idxP p k (l.drop k))) (fun _ i _=>l.length - (intOf i).toNat)
 case atStart=>exact ⟨0,by omega,rfl,qbl,Zh Zs⟩
 case round =>
  obtain ⟨k,hk,rfl,hbel,HG⟩:=hrel;have hhe : w.heap.size≤wr.heap.size:=hbel.size;by_cases hlt : k<l.length
  ·obtain ⟨b,o,rfl,hb,hcl⟩:=HR.out.at1 hlt;have hcl2:=hcl.keep (hbel.block b hb);have hd : l.drop k=l[k] :: l.drop (k+1):=List.drop_eq_getElem_cons hlt;have hgo:=HG.out;rw [hd] at hgo;have HGO:=Zh hgo;have hcall:=hp wr l[k] (List.getElem_mem hlt) hbel;clear hd hgo hcl HG hp;generalize l[k]=x at *;obtain ⟨bq,hb0⟩ : ∃ bq,p x=bq:=⟨_,rfl⟩;rw [hb0] at hcall;have HB0:=Zh hb0;clear hb0;obtain ⟨op,n,un,s,xA,xc,xl⟩:=x;have gg:=hcl2.c5;obtain ⟨g0,g1,g2,g3,g4⟩:=gg;simp only [PT.v] at hcall;clear hcl2;rcases bq
   ·go_wp2_with fail;refine hcall.mono ?_;clear hcall;rintro e w1 ⟨rfl,hb1⟩;have hB1 : Below w.heap.size w w1:=qbv;clear hb1;go_wp2_with fail;go_roundw
    case rel=>exact ⟨k+1,by omega,by go_num,hB1,Zh (by rw [HGO.out,idxP,HB0.out]; rfl)⟩
    case measure=>simp [intOf]; omega
   ·go_wp2_with fail;refine hcall.mono ?_;clear hcall;rintro e w1 ⟨rfl,hb1⟩;have hB1 : Below w.heap.size w w1:=qbv;clear hb1;go_wp2_with fail;go_ret;exact ⟨ret_int (by rw [HGO.out,idxP,HB0.out]; rfl),hB1⟩
  ·have hkl : l.drop k=[]:=List.drop_eq_nil_of_le Zo;have hgo:=HG.out;rw [hkl] at hgo;have HGO:=Zh hgo;clear hkl hgo HG;go_wp2_with fail;go_ret;exact ⟨ret_int (by rw [HGO.out]; rfl),hbel⟩
theorem hasE_r (l : Sl PT) (p : PT→Bool) (g : Nat) (w : World) (hr : Rd (· < w.heap.size) 5 PT.enc w l) (hp : ∀ W x,x ∈ l.l→Below w.heap.size w W→Calls Tryz.prog 143 (#[x.v] ++ #[.pointer (some ⟨g,0,none⟩)]) W fun e w'=>e = .returned (.bool (p x))∧Below W.heap.size W w') : Calls Tryz.prog 142 #[.slice l.A l.l.length l.c,.func (.func 143) #[] #[.pointer (some ⟨g,0,none⟩)]] w fun e w'=>e = .returned (.bool (l.l.any p))∧Below w.heap.size w w':=by
 have hcon:=idxE_r l p g w hr hp;clear hp hr;rcases idxP_ge p l.l 0 with ⟨h1,h2⟩ | ⟨j,x,h1,h2,h3,h4⟩
 ·rw [h1] at hcon;have HV:=Zh (show false=l.l.any p from (List.any_eq_false.2 (fun x hx=>by simpa using h2 x hx)).symm);clear h1 h2;go_enter Tryz.func142,Tryz.ntmps142;go_wp2_with fail;refine hcon.mono ?_;clear hcon;rintro e w1 ⟨rfl,hb1⟩;go_wp2_with fail;go_ret;exact ⟨ret_bool HV.out,hb1⟩
 ·rw [h1] at hcon;have HV:=Zh (show true=l.l.any p from (List.any_eq_true.2 ⟨x,List.mem_of_getElem? h2,h3⟩).symm);clear h1 h2 h3 h4;go_enter Tryz.func142,Tryz.ntmps142;go_wp2_with fail;refine hcon.mono ?_;clear hcon;rintro e w1 ⟨rfl,hb1⟩;go_wp2_with fail;go_ret;exact ⟨ret_bool HV.out,hb1⟩
def opsN (o : Int) : Int:=if o=0 then 0 else if o=1 then 0 else if o=2 then 0 else if o=3 then 0 else if o=12 then 1 else if o=15 then 3 else if o<0 then -1 else if 16≤o then -1 else 2
theorem syn_ops (o : Int) (w : World) : Calls Tryz.prog 140 #[.int .i64 o] w fun e w'=>e = .returned (.int .i64 (opsN o))∧w=w':=by
 by_cases h0 : o=0
 ·subst h0;go_enter Tryz.func140,Tryz.ntmps140;go_wp2_with fail;go_ret;exact ⟨ret_int (by decide),rfl⟩
 by_cases h1 : o=1
 ·subst h1;go_enter Tryz.func140,Tryz.ntmps140;go_wp2_with fail;go_ret;exact ⟨ret_int (by decide),rfl⟩
 by_cases h2 : o=2
 ·subst h2;go_enter Tryz.func140,Tryz.ntmps140;go_wp2_with fail;go_ret;exact ⟨ret_int (by decide),rfl⟩
 by_cases h3 : o=3
 ·subst h3;go_enter Tryz.func140,Tryz.ntmps140;go_wp2_with fail;go_ret;exact ⟨ret_int (by decide),rfl⟩
 by_cases h4 : o=12
 ·subst h4;go_enter Tryz.func140,Tryz.ntmps140;go_wp2_with fail;go_ret;exact ⟨ret_int (by decide),rfl⟩
 by_cases h5 : o=15
 ·subst h5;go_enter Tryz.func140,Tryz.ntmps140;go_wp2_with fail;go_ret;exact ⟨ret_int (by decide),rfl⟩
 by_cases h6 : o<0
 ·have HV : Hid (-1=opsN o):=Zh (by unfold opsN; rw [if_neg h0,if_neg h1,if_neg h2,if_neg h3,if_neg h4,if_neg h5,if_pos h6]);go_enter Tryz.func140,Tryz.ntmps140;go_wp2_with fail;go_ret;exact ⟨ret_int HV.out,rfl⟩
 by_cases h7 : 16≤o
 ·have HV : Hid (-1=opsN o):=Zh (by unfold opsN; rw [if_neg h0,if_neg h1,if_neg h2,if_neg h3,if_neg h4,if_neg h5,if_neg h6,if_pos h7]);go_enter Tryz.func140,Tryz.ntmps140;go_wp2_with fail;go_ret;exact ⟨ret_int HV.out,rfl⟩
 have HV : Hid (2=opsN o):=Zh (by unfold opsN; rw [if_neg h0,if_neg h1,if_neg h2,if_neg h3,if_neg h4,if_neg h5,if_neg h6,if_neg h7]);go_enter Tryz.func140,Tryz.ntmps140;go_wp2_with fail;go_ret;exact ⟨ret_int HV.out,rfl⟩
def inB (a b n : Int) : Bool:=decide (a≤n) && decide (n≤b)
theorem inB_lt {a b n : Int} (h : n<a) : (!inB a b n)=true:=by unfold inB; rw [decide_eq_false (by omega : ¬ a≤n)]; rfl
theorem inB_gt {a b n : Int} (h : b<n) : (!inB a b n)=true:=by unfold inB; rw [decide_eq_false (by omega : ¬ n≤b),Bool.and_false]; rfl
theorem inB_ok {a b n : Int} (h : a≤n) (k : n≤b) : (!inB a b n)=false:=by unfold inB; rw [decide_eq_true h,decide_eq_true k]; rfl
theorem syn_in1 (n a b : Int) (g h : Nat) (w : World) (hg : w.cell? ⟨g,0,none⟩=some (.int .i64 a)) (hh : w.cell? ⟨h,0,none⟩=some (.int .i64 b)) : Calls Tryz.prog 165 #[.int .i64 n,.pointer (some ⟨g,0,none⟩),.pointer (some ⟨h,0,none⟩)] w fun e w'=>e = .returned (.bool (!inB a b n))∧Below w.heap.size w w':=by
 by_cases h1 : n<a
 ·have HV:=Zh (inB_lt (b:=b) h1).symm;go_enter Tryz.func165,Tryz.ntmps165;go_wp2_with fail;go_ret;exact ⟨ret_bool HV.out,Below.refl _ _⟩
 by_cases h2 : b<n
 ·have HV:=Zh (inB_gt (a:=a) h2).symm;go_enter Tryz.func165,Tryz.ntmps165;go_wp2_with fail;go_ret;exact ⟨ret_bool HV.out,Below.refl _ _⟩
 have HV:=Zh (inB_ok (a:=a) (b:=b) (n:=n) Zo Zo).symm;go_enter Tryz.func165,Tryz.ntmps165;go_wp2_with fail;go_ret;exact ⟨ret_bool HV.out,Below.refl _ _⟩
theorem any_not {α : Type} (p : α→Bool) : ∀ l : List α,(!l.any (fun x=>!p x))=l.all p
 | []=>rfl
 | x :: l=>by rw [List.any_cons,List.all_cons,← any_not p l]; cases p x <;> simp
theorem syn_in (a b : Int) (s : Sl Int) (w : World) (hr : Rd (· < w.heap.size) 1 ienc w s) : Calls Tryz.prog 141 #[.int .i64 a,.int .i64 b,.slice s.A s.l.length s.c] w fun e w'=>e = .returned (.bool (s.l.all (inB a b)))∧Below w.heap.size w w':=by
 have HR:=Zh hr;clear hr;go_enter Tryz.func141,Tryz.ntmps141;go_wp2_with fail;have HB : Hid (Below w.heap.size w ((w.alloc (.cells #[.int .i64 a] 3)).alloc (.cells #[.int .i64 b] 3))):=Zh qbl;have HA : Hid (Blk ((w.alloc (.cells #[.int .i64 a] 3)).alloc (.cells #[.int .i64 b] 3)) w.heap.size 3 #[.int .i64 a]):=Zh ((Blk.new _ _ _).alloc _);have HC : Hid (Blk ((w.alloc (.cells #[.int .i64 a] 3)).alloc (.cells #[.int .i64 b] 3)) (w.heap.size+1) 3 #[.int .i64 b]):=Zh (Blk.new' Zs);generalize (w.alloc (.cells #[.int .i64 a] 3)).alloc (.cells #[.int .i64 b] 3)=w2 at *;refine (hasI_in s (fun n=>!inB a b n) w.heap.size (w.heap.size+1) w2 (HR.out.later HB.out) (fun W x _ hW=>syn_in1 x a b _ _ W (HA.out.later hW).b1.1 (HC.out.later hW).b1.1)).mono ?_;rintro e w' ⟨rfl,hb⟩;have hB : Below w.heap.size w w':=HB.out.trans (hb.mono HB.out.size);clear hb;have HV:=Zh (any_not (inB a b) s.l);generalize s.l.any (fun n=>!inB a b n)=r at *;go_wp2_with fail;go_ret;exact ⟨ret_bool HV.out,hB⟩
end Go.Proofs.YtmomlipmpgcheaaGreatDoor
