/- Walks: syntax.operands, in. -/
import Derived.Test.YtcgocdhhneckhaaGreatDoorEvbxad
set_option linter.unusedSimpArgs false
set_option linter.unusedVariables false
set_option maxRecDepth 100000
set_option maxHeartbeats 6400000
namespace Go.Proofs.YtcgocdhhneckhaaGreatDoor
open Go.RowKit
def opsN (o : Int) : Int:=if o=0 then 0 else if o=1 then 0 else if o=2 then 0 else if o=3 then 0 else if o=12 then 1 else if o=15 then 3 else if o<0 then -1 else if 16≤o then -1 else 2
theorem syn_ops (o : Int) (w : World) : Calls Tryz.prog 87 #[.int .i64 o] w fun e w'=>e = .returned (.int .i64 (opsN o))∧w=w':=by
 by_cases h0 : o=0
 ·subst h0;go_enter Tryz.func87,Tryz.ntmps87;go_wp2_with fail;go_ret;exact ⟨ret_int (by decide),rfl⟩
 by_cases h1 : o=1
 ·subst h1;go_enter Tryz.func87,Tryz.ntmps87;go_wp2_with fail;go_ret;exact ⟨ret_int (by decide),rfl⟩
 by_cases h2 : o=2
 ·subst h2;go_enter Tryz.func87,Tryz.ntmps87;go_wp2_with fail;go_ret;exact ⟨ret_int (by decide),rfl⟩
 by_cases h3 : o=3
 ·subst h3;go_enter Tryz.func87,Tryz.ntmps87;go_wp2_with fail;go_ret;exact ⟨ret_int (by decide),rfl⟩
 by_cases h4 : o=12
 ·subst h4;go_enter Tryz.func87,Tryz.ntmps87;go_wp2_with fail;go_ret;exact ⟨ret_int (by decide),rfl⟩
 by_cases h5 : o=15
 ·subst h5;go_enter Tryz.func87,Tryz.ntmps87;go_wp2_with fail;go_ret;exact ⟨ret_int (by decide),rfl⟩
 by_cases h6 : o<0
 ·have HV : Hid (-1=opsN o):=Zh (by unfold opsN; rw [if_neg h0,if_neg h1,if_neg h2,if_neg h3,if_neg h4,if_neg h5,if_pos h6]);go_enter Tryz.func87,Tryz.ntmps87;go_wp2_with fail;go_ret;exact ⟨ret_int HV.out,rfl⟩
 by_cases h7 : 16≤o
 ·have HV : Hid (-1=opsN o):=Zh (by unfold opsN; rw [if_neg h0,if_neg h1,if_neg h2,if_neg h3,if_neg h4,if_neg h5,if_neg h6,if_pos h7]);go_enter Tryz.func87,Tryz.ntmps87;go_wp2_with fail;go_ret;exact ⟨ret_int HV.out,rfl⟩
 have HV : Hid (2=opsN o):=Zh (by unfold opsN; rw [if_neg h0,if_neg h1,if_neg h2,if_neg h3,if_neg h4,if_neg h5,if_neg h6,if_neg h7]);go_enter Tryz.func87,Tryz.ntmps87;go_wp2_with fail;go_ret;exact ⟨ret_int HV.out,rfl⟩
def inB (a b n : Int) : Bool:=decide (a≤n) && decide (n≤b)
theorem inB_lt {a b n : Int} (h : n<a) : (!inB a b n)=true:=by unfold inB; rw [decide_eq_false (by omega : ¬ a≤n)]; rfl
theorem inB_gt {a b n : Int} (h : b<n) : (!inB a b n)=true:=by unfold inB; rw [decide_eq_false (by omega : ¬ n≤b),Bool.and_false]; rfl
theorem inB_ok {a b n : Int} (h : a≤n) (k : n≤b) : (!inB a b n)=false:=by unfold inB; rw [decide_eq_true h,decide_eq_true k]; rfl
theorem syn_in1 (n a b : Int) (g h : Nat) (w : World) (hg : w.cell? ⟨g,0,none⟩=some (.int .i64 a)) (hh : w.cell? ⟨h,0,none⟩=some (.int .i64 b)) : Calls Tryz.prog 137 #[.int .i64 n,.pointer (some ⟨g,0,none⟩),.pointer (some ⟨h,0,none⟩)] w fun e w'=>e = .returned (.bool (!inB a b n))∧Below w.heap.size w w':=by
 by_cases h1 : n<a
 ·have HV:=Zh (inB_lt (b:=b) h1).symm;go_enter Tryz.func137,Tryz.ntmps137;go_wp2_with fail;go_ret;exact ⟨ret_bool HV.out,Below.refl _ _⟩
 by_cases h2 : b<n
 ·have HV:=Zh (inB_gt (a:=a) h2).symm;go_enter Tryz.func137,Tryz.ntmps137;go_wp2_with fail;go_ret;exact ⟨ret_bool HV.out,Below.refl _ _⟩
 have HV:=Zh (inB_ok (a:=a) (b:=b) (n:=n) Zo Zo).symm;go_enter Tryz.func137,Tryz.ntmps137;go_wp2_with fail;go_ret;exact ⟨ret_bool HV.out,Below.refl _ _⟩
theorem any_not {α : Type} (p : α→Bool) : ∀ l : List α,(!l.any (fun x=>!p x))=l.all p
 | []=>rfl
 | x :: l=>by rw [List.any_cons,List.all_cons,← any_not p l]; cases p x <;> simp
theorem syn_in (a b : Int) (s : Sl Int) (w : World) (hr : Rd (· < w.heap.size) 1 ienc w s) : Calls Tryz.prog 88 #[.int .i64 a,.int .i64 b,.slice s.A s.l.length s.c] w fun e w'=>e = .returned (.bool (s.l.all (inB a b)))∧Below w.heap.size w w':=by
 have HR:=Zh hr;clear hr;go_enter Tryz.func88,Tryz.ntmps88;go_wp2_with fail;have HB : Hid (Below w.heap.size w ((w.alloc (.cells #[.int .i64 a] 3)).alloc (.cells #[.int .i64 b] 3))):=Zh qbl;have HA : Hid (Blk ((w.alloc (.cells #[.int .i64 a] 3)).alloc (.cells #[.int .i64 b] 3)) w.heap.size 3 #[.int .i64 a]):=Zh ((Blk.new _ _ _).alloc _);have HC : Hid (Blk ((w.alloc (.cells #[.int .i64 a] 3)).alloc (.cells #[.int .i64 b] 3)) (w.heap.size+1) 3 #[.int .i64 b]):=Zh (Blk.new' Zs);generalize (w.alloc (.cells #[.int .i64 a] 3)).alloc (.cells #[.int .i64 b] 3)=w2 at *;refine (hasI_in s (fun n=>!inB a b n) w.heap.size (w.heap.size+1) w2 (HR.out.later HB.out) (fun W x _ hW=>syn_in1 x a b _ _ W (HA.out.later hW).b1.1 (HC.out.later hW).b1.1)).mono ?_;rintro e w' ⟨rfl,hb⟩;have hB : Below w.heap.size w w':=HB.out.trans (hb.mono HB.out.size);clear hb;have HV:=Zh (any_not (inB a b) s.l);generalize s.l.any (fun n=>!inB a b n)=r at *;go_wp2_with fail;go_ret;exact ⟨ret_bool HV.out,hB⟩
def empB (s : ByteArray) : Bool:=s.toList.isEmpty
def bothZ (n u : Int) : Bool:=decide (n=0) && decide (u=0)
def okE : Nat→PT→Bool
  | 0,_=>false
  | k+1,⟨o,n,u,s,_,_,l⟩=>decide ((l.length : Int)=opsN o) && (if o=0 then empB s && (inB 0 3 u && inB 0 (if u=3 then 1 else 1000000000000000) n) else if o=1∨o=2∨o=3 then bothZ n u && nameB s else bothZ n u && (empB s && l.all (okE k)))
theorem okE_len {k : Nat} {o n u : Int} {s : ByteArray} {A : Option Addr} {c : Nat} {l : List PT} (h : ¬ (l.length : Int)=opsN o) : false=okE (k+1) ⟨o,n,u,s,A,c,l⟩:=by
 unfold okE; rw [decide_eq_false h]; rfl
theorem okE_num {k : Nat} {n u : Int} {s : ByteArray} {A : Option Addr} {c : Nat} {l : List PT} (h : (l.length : Int)=opsN 0) : (empB s && (inB 0 3 u && inB 0 (if u=3 then 1 else 1000000000000000) n))=okE (k+1) ⟨0,n,u,s,A,c,l⟩:=by
 unfold okE; rw [decide_eq_true h]; simp
theorem okE_name {k : Nat} {o n u : Int} {s : ByteArray} {A : Option Addr} {c : Nat} {l : List PT} (h : (l.length : Int)=opsN o) (h0 : ¬ o=0) (h1 : o=1∨o=2∨o=3) : (bothZ n u && nameB s)=okE (k+1) ⟨o,n,u,s,A,c,l⟩:=by
 unfold okE; rw [decide_eq_true h,if_neg h0,if_pos h1]; simp
theorem okE_rest {k : Nat} {o n u : Int} {s : ByteArray} {A : Option Addr} {c : Nat} {l : List PT} (h : (l.length : Int)=opsN o) (h0 : ¬ o=0) (h1 : ¬ (o=1∨o=2∨o=3)) : (bothZ n u && (empB s && l.all (okE k)))=okE (k+1) ⟨o,n,u,s,A,c,l⟩:=by
 unfold okE; rw [decide_eq_true h,if_neg h0,if_neg h1]; simp
theorem syn_right0 (e : PT) (w : World) : Calls Tryz.prog 45 #[e.v,.int .i64 0] w fun r w'=>r = .returned (.bool (okE 0 e))∧Below w.heap.size w w':=by
 obtain ⟨o,n,u,s,A,c,l⟩:=e;simp only [PT.v];go_enter Tryz.func45,Tryz.ntmps45;go_wp2_with fail;have HB : Hid (Below w.heap.size w ((w.alloc (.cells #[.int .i64 o,.int .i64 n,.int .i64 u,.string s,.slice A l.length c] 25)).alloc (.cells #[.int .i64 0] 3))):=Zh qbl;have HA : Hid (Blk ((w.alloc (.cells #[.int .i64 o,.int .i64 n,.int .i64 u,.string s,.slice A l.length c] 25)).alloc (.cells #[.int .i64 0] 3)) w.heap.size 25 #[.int .i64 o,.int .i64 n,.int .i64 u,.string s,.slice A l.length c]):=Zh ((Blk.new _ _ _).alloc _);have HC : Hid (Blk ((w.alloc (.cells #[.int .i64 o,.int .i64 n,.int .i64 u,.string s,.slice A l.length c] 25)).alloc (.cells #[.int .i64 0] 3)) (w.heap.size+1) 3 #[.int .i64 0]):=Zh (Blk.new' Zs);generalize (w.alloc (.cells #[.int .i64 o,.int .i64 n,.int .i64 u,.string s,.slice A l.length c] 25)).alloc (.cells #[.int .i64 0] 3)=w2 at *;obtain ⟨a0,a1,a2,a3,a4,af,az⟩:=HA.out.b5;obtain ⟨c0,cf,cz⟩:=HC.out.b1;refine wp_region_T (fun W=>W.cell? ⟨w.heap.size+1,0,none⟩=some (.int .i64 0)) (fun _=>false) Zy c0 (fun hHeld=>?_);refine Zr 0 ?_;refine Zr 1 ?_;refine Zr 2 ?_;clear hHeld;refine Zm 3 ?_;refine Zm 4 ?_;refine Zm 5 ?_;refine Zm 6 ?_;refine Zm 7 ?_;refine Zm 8 ?_;refine Zm 9 ?_;refine Zr 10 ?_;refine Ze ?_;go_wp2_with fail;go_ret;exact ⟨rfl,HB.out.trans (Below.drew Zz)⟩
def RightP (k : Nat) : Prop:=∀ (e : PT) (w : World),PT.At (· < w.heap.size) w e→Calls Tryz.prog 45 #[e.v,.int .i64 k] w fun r w'=>r = .returned (.bool (okE k e))∧Below w.heap.size w w'
theorem syn_right1 (k : Nat) (hk : k≤1000) (ih : RightP k) (e : PT) (g : Nat) (w : World) (he : PT.At (· < w.heap.size) w e) (hg : w.cell? ⟨g,0,none⟩=some (.int .i64 ((k : Int)+1))) (hgl : g<w.heap.size) : Calls Tryz.prog 90 #[e.v,.pointer (some ⟨g,0,none⟩)] w fun r w'=>r = .returned (.bool (!okE k e))∧Below w.heap.size w w':=by
 have HI:=Zh (fun w2 h=>ih e w2 h);have HE:=Zh he;clear he ih;obtain ⟨o,n,u,s,A,c,l⟩:=e;(have hne : g≠w.heap.size:=by omega);(have hw : IntKind.i64.wrap ((k : Int)+1 - 1)=(k : Int):=by rw [IntKind.wrap_i64]; omega);simp only [PT.v] at HI ⊢;go_enter Tryz.func90,Tryz.ntmps90;go_wp2_with fail;have HB : Hid (Below w.heap.size w (w.alloc (.cells #[.int .i64 o,.int .i64 n,.int .i64 u,.string s,.slice A l.length c] 25))):=Zh qbl;refine (HI.out _ (HE.out.later HB.out)).mono ?_;rintro e w' ⟨rfl,hb⟩;have hB : Below w.heap.size w w':=HB.out.trans (hb.mono HB.out.size);clear hb;obtain ⟨r,hr⟩ : ∃ r,okE k ⟨o,n,u,s,A,c,l⟩=r:=⟨_,rfl⟩;rw [hr];have HR : Hid ((!r) = !okE k ⟨o,n,u,s,A,c,l⟩):=Zh (by rw [hr]);clear hr;go_wp2_with fail;go_ret;exact ⟨ret_bool HR.out,hB⟩
theorem both_no1 {n u : Int} {b : Bool} (h : ¬ n=0) : false=(bothZ n u && b):=by unfold bothZ; rw [decide_eq_false h]; rfl
theorem both_no2 {n u : Int} {b : Bool} (h : ¬ u=0) : false=(bothZ n u && b):=by unfold bothZ; rw [decide_eq_false h,Bool.and_false]; rfl
theorem both_yes {b : Bool} : b=(bothZ 0 0 && b):=rfl
theorem syn_rightL (k : Nat) (o n u : Int) (s : ByteArray) (A : Option Addr) (c : Nat) (l : List PT) (w : World) (d : Int) (hd0 : (d == 0)=false) (hln : l.length≤9223372036854775807) (hl : ¬ (l.length : Int)=opsN o) : Calls Tryz.prog 45 #[PT.v ⟨o,n,u,s,A,c,l⟩,.int .i64 d] w fun r w'=>r = .returned (.bool (okE (k+1) ⟨o,n,u,s,A,c,l⟩))∧Below w.heap.size w w':=by
 have HV:=Zh (okE_len (k:=k) (n:=n) (u:=u) (s:=s) (A:=A) (c:=c) hl);(have hlb : (((l.length : Int)) != opsN o)=true:=by simpa using hl);have HL:=Zh hl;clear hl;simp only [PT.v];go_enter Tryz.func45,Tryz.ntmps45;go_wp2_with fail;have HB : Hid (Below w.heap.size w ((w.alloc (.cells #[.int .i64 o,.int .i64 n,.int .i64 u,.string s,.slice A l.length c] 25)).alloc (.cells #[.int .i64 d] 3))):=Zh qbl;have HA : Hid (Blk ((w.alloc (.cells #[.int .i64 o,.int .i64 n,.int .i64 u,.string s,.slice A l.length c] 25)).alloc (.cells #[.int .i64 d] 3)) w.heap.size 25 #[.int .i64 o,.int .i64 n,.int .i64 u,.string s,.slice A l.length c]):=Zh ((Blk.new _ _ _).alloc _);have HC : Hid (Blk ((w.alloc (.cells #[.int .i64 o,.int .i64 n,.int .i64 u,.string s,.slice A l.length c] 25)).alloc (.cells #[.int .i64 d] 3)) (w.heap.size+1) 3 #[.int .i64 d]):=Zh (Blk.new' Zs);generalize (w.alloc (.cells #[.int .i64 o,.int .i64 n,.int .i64 u,.string s,.slice A l.length c] 25)).alloc (.cells #[.int .i64 d] 3)=w2 at *;obtain ⟨a0,a1,a2,a3,a4,af,az⟩:=HA.out.b5;obtain ⟨c0,cf,cz⟩:=HC.out.b1;refine wp_region_T (fun W=>W.cell? ⟨w.heap.size+1,0,none⟩=some (.int .i64 d)∧W.cell? ⟨w.heap.size,4,none⟩=some (.slice A l.length c)∧W.cell? ⟨w.heap.size,0,none⟩=some (.int .i64 o)) (fun _=>false) Zy ⟨c0,a4,a0⟩ (fun hHeld=>?_);refine Zr 0 ?_;clear hHeld;refine wpAnyT_take2 (i:=1) (v:=.bool false) rfl rfl Zy Zy Zy Zy (fun _ _ _ h=>h) (Or.inl ⟨by rfl, ?_⟩) (by first | assumption | trivial) ?_
 ·(intro w hSw; (try dsimp only at hSw); go_simp) <;> (first | (with_reducible rfl) | assumption | (simp; done) | (simp [*]; done) | (simp; omega))
 simp only [qsa,qsb,qsc];refine Zr 2 ?_;refine Zr 3 ?_;refine Zr 4 ?_;refine Zr 5 ?_;refine Zr 6 ?_;refine Zr 7 ?_;refine Zn 8 ?_;go_wp2_with fail;refine (syn_ops o _).mono ?_;rintro e w' ⟨rfl,rfl⟩;go_wp2_with fail;refine And.intro (by first | exact fun _=>⟨c0,a4,a0⟩ | exact ⟨c0,a4,a0⟩) ?_;have hHeld:=(⟨c0,a4,a0⟩ : w2.cell? ⟨w.heap.size+1,0,none⟩=some (.int .i64 d)∧w2.cell? ⟨w.heap.size,4,none⟩=some (.slice A l.length c)∧w2.cell? ⟨w.heap.size,0,none⟩=some (.int .i64 o));refine wpAnyT_take2 (i:=9) (v:=.bool true) rfl rfl Zy Zy Zy Zy (fun _ _ _ h=>h) (Or.inl ⟨by rfl, ?_⟩) (by first | assumption | trivial) ?_
 ·(intro w hSw; (try dsimp only at hSw); go_simp) <;> (first | (with_reducible rfl) | assumption | (simp; done) | (simp [*]; done) | (simp; omega))
 simp only [qsa,qsb,qsc];refine Zr 10 ?_;refine Ze ?_;clear hHeld;go_wp2_with fail;go_ret;exact ⟨ret_bool HV.out,HB.out.trans (Below.drew Zz)⟩
theorem syn_rightN (k : Nat) (o n u : Int) (s : ByteArray) (A : Option Addr) (c : Nat) (l : List PT) (w : World) (d : Int) (hd0 : (d == 0)=false) (hln : l.length≤9223372036854775807) (hl : (l.length : Int)=opsN o) (h0 : ¬ o=0) (ho : o=1∨o=2∨o=3) (hs : s.size≤9223372036854775807) : Calls Tryz.prog 45 #[PT.v ⟨o,n,u,s,A,c,l⟩,.int .i64 d] w fun r w'=>r = .returned (.bool (okE (k+1) ⟨o,n,u,s,A,c,l⟩))∧Below w.heap.size w w':=by
 have HV:=Zh (okE_name (k:=k) (n:=n) (u:=u) (s:=s) (A:=A) (c:=c) hl h0 ho);(have hlb : (((l.length : Int)) != opsN o)=false:=by simpa using hl);have HN:=Zh (fun w2=>syn_name s w2 hs);clear hl;simp only [PT.v];rw [← HV.out];clear HV;go_enter Tryz.func45,Tryz.ntmps45;go_wp2_with fail;have HB : Hid (Below w.heap.size w ((w.alloc (.cells #[.int .i64 o,.int .i64 n,.int .i64 u,.string s,.slice A l.length c] 25)).alloc (.cells #[.int .i64 d] 3))):=Zh qbl;have HA : Hid (Blk ((w.alloc (.cells #[.int .i64 o,.int .i64 n,.int .i64 u,.string s,.slice A l.length c] 25)).alloc (.cells #[.int .i64 d] 3)) w.heap.size 25 #[.int .i64 o,.int .i64 n,.int .i64 u,.string s,.slice A l.length c]):=Zh ((Blk.new _ _ _).alloc _);have HC : Hid (Blk ((w.alloc (.cells #[.int .i64 o,.int .i64 n,.int .i64 u,.string s,.slice A l.length c] 25)).alloc (.cells #[.int .i64 d] 3)) (w.heap.size+1) 3 #[.int .i64 d]):=Zh (Blk.new' Zs);generalize (w.alloc (.cells #[.int .i64 o,.int .i64 n,.int .i64 u,.string s,.slice A l.length c] 25)).alloc (.cells #[.int .i64 d] 3)=w2 at *;obtain ⟨a0,a1,a2,a3,a4,af,az⟩:=HA.out.b5;obtain ⟨c0,cf,cz⟩:=HC.out.b1;refine wp_region_T (fun W=>W.cell? ⟨w.heap.size+1,0,none⟩=some (.int .i64 d)∧W.cell? ⟨w.heap.size,4,none⟩=some (.slice A l.length c)∧W.cell? ⟨w.heap.size,0,none⟩=some (.int .i64 o)) (fun _=>false) Zy ⟨c0,a4,a0⟩ (fun hHeld=>?_);refine Zr 0 ?_;clear hHeld;refine wpAnyT_take2 (i:=1) (v:=.bool false) rfl rfl Zy Zy Zy Zy (fun _ _ _ h=>h) (Or.inl ⟨by rfl, ?_⟩) (by first | assumption | trivial) ?_
 ·(intro w hSw; (try dsimp only at hSw); go_simp) <;> (first | (with_reducible rfl) | assumption | (simp; done) | (simp [*]; done) | (simp; omega))
 simp only [qsa,qsb,qsc];refine Zr 2 ?_;refine Zr 3 ?_;refine Zr 4 ?_;refine Zr 5 ?_;refine Zr 6 ?_;refine Zr 7 ?_;refine Zn 8 ?_;go_wp2_with fail;refine (syn_ops o _).mono ?_;rintro e w' ⟨rfl,rfl⟩;go_wp2_with fail;refine And.intro (by first | exact fun _=>⟨c0,a4,a0⟩ | exact ⟨c0,a4,a0⟩) ?_;have hHeld:=(⟨c0,a4,a0⟩ : w2.cell? ⟨w.heap.size+1,0,none⟩=some (.int .i64 d)∧w2.cell? ⟨w.heap.size,4,none⟩=some (.slice A l.length c)∧w2.cell? ⟨w.heap.size,0,none⟩=some (.int .i64 o));refine wpAnyT_take2 (i:=9) (v:=.bool false) rfl rfl Zy Zy Zy Zy (fun _ _ _ h=>h) (Or.inl ⟨by rfl, ?_⟩) (by first | assumption | trivial) ?_
 ·(intro w hSw; (try dsimp only at hSw); go_simp) <;> (first | (with_reducible rfl) | assumption | (simp; done) | (simp [*]; done) | (simp; omega))
 simp only [qsa,qsb,qsc];refine Zr 10 ?_;refine Ze ?_;clear hHeld;by_cases hn : n=0
 ·subst hn;by_cases hu : u=0
  ·subst hu;have HV:=Zh (both_yes (b:=nameB s));rcases ho with rfl | rfl | rfl
   ·clear hlb;go_wp2_with fail;refine (HN.out _).mono ?_;rintro e w' ⟨rfl,hb⟩;have hB : Below w.heap.size w w':=HB.out.trans ((Below.drew Zz |>.trans hb).mono HB.out.size);clear hb;obtain ⟨r,hr⟩ : ∃ r,nameB s=r:=⟨_,rfl⟩;rw [hr];have HR:=Zh (hr.symm.trans HV.out);clear hr;go_wp2_with fail;go_ret;exact ⟨ret_bool HR.out,hB⟩
   ·clear hlb;go_wp2_with fail;refine (HN.out _).mono ?_;rintro e w' ⟨rfl,hb⟩;have hB : Below w.heap.size w w':=HB.out.trans ((Below.drew Zz |>.trans hb).mono HB.out.size);clear hb;obtain ⟨r,hr⟩ : ∃ r,nameB s=r:=⟨_,rfl⟩;rw [hr];have HR:=Zh (hr.symm.trans HV.out);clear hr;go_wp2_with fail;go_ret;exact ⟨ret_bool HR.out,hB⟩
   ·clear hlb;go_wp2_with fail;refine (HN.out _).mono ?_;rintro e w' ⟨rfl,hb⟩;have hB : Below w.heap.size w w':=HB.out.trans ((Below.drew Zz |>.trans hb).mono HB.out.size);clear hb;obtain ⟨r,hr⟩ : ∃ r,nameB s=r:=⟨_,rfl⟩;rw [hr];have HR:=Zh (hr.symm.trans HV.out);clear hr;go_wp2_with fail;go_ret;exact ⟨ret_bool HR.out,hB⟩
  ·have HV:=Zh (both_no2 (n:=0) (b:=nameB s) hu);rcases ho with rfl | rfl | rfl
   ·clear hlb;go_wp2_with fail;go_ret;exact ⟨ret_bool HV.out,HB.out.trans (Below.drew Zz)⟩
   ·clear hlb;go_wp2_with fail;go_ret;exact ⟨ret_bool HV.out,HB.out.trans (Below.drew Zz)⟩
   ·clear hlb;go_wp2_with fail;go_ret;exact ⟨ret_bool HV.out,HB.out.trans (Below.drew Zz)⟩
 ·have HV:=Zh (both_no1 (u:=u) (b:=nameB s) hn);rcases ho with rfl | rfl | rfl
  ·clear hlb;go_wp2_with fail;go_ret;exact ⟨ret_bool HV.out,HB.out.trans (Below.drew Zz)⟩
  ·clear hlb;go_wp2_with fail;go_ret;exact ⟨ret_bool HV.out,HB.out.trans (Below.drew Zz)⟩
  ·clear hlb;go_wp2_with fail;go_ret;exact ⟨ret_bool HV.out,HB.out.trans (Below.drew Zz)⟩
end Go.Proofs.YtcgocdhhneckhaaGreatDoor
