/- Walk: syntax.right at numbers and at operations; RightExp. -/
import Derived.Test.YtcgocdhhneckhaaGreatDoorEvbxae
set_option linter.unusedSimpArgs false
set_option linter.unusedVariables false
set_option maxRecDepth 100000
set_option maxHeartbeats 6400000
namespace Go.Proofs.YtcgocdhhneckhaaGreatDoor
open Go.RowKit
theorem rd_one {W : World} {g : Nat} {t : TypeId} {x : Int} (h : Blk W g t #[.int .i64 x]) : Rd (· < W.heap.size) 1 ienc W ⟨some ⟨g,0,none⟩,1,[x]⟩ :=
 ⟨Nat.le_refl _,by unfold maxLen; simp,fun h=>by simp at h,fun i y hy=>by
  have hi : i=0:=by
   rcases i with _ | i
   ·rfl
   ·simp at hy
  subst hi;(have hxy : x=y:=by simpa using hy);subst hxy
  exact ⟨g,0,rfl,h.lt,fun j u hu=>by
   rw [Nat.zero_mul,Nat.add_zero,Nat.zero_add,h.cell];simpa [ienc] using hu⟩⟩
theorem all_one (p : Int→Bool) (x : Int) : [x].all p=p x:=by simp
theorem syn_in_one (a b x : Int) (g : Nat) (W : World) {t : TypeId} (h : Blk W g t #[.int .i64 x]) : Calls Tryz.prog 88 #[.int .i64 a,.int .i64 b,.slice (some ⟨g,0,none⟩) 1 1] W fun e w'=>e = .returned (.bool (inB a b x))∧Below W.heap.size W w':=by
 have h:=syn_in a b ⟨some ⟨g,0,none⟩,1,[x]⟩ W (rd_one h);rw [all_one] at h;exact h
theorem syn_rightM (k : Nat) (o n u : Int) (s : ByteArray) (A : Option Addr) (c : Nat) (l : List PT) (w : World) (d : Int) (hd0 : (d == 0)=false) (hln : l.length≤9223372036854775807) (hl : (l.length : Int)=opsN o) (ho : o=0) : Calls Tryz.prog 45 #[PT.v ⟨o,n,u,s,A,c,l⟩,.int .i64 d] w fun r w'=>r = .returned (.bool (okE (k+1) ⟨o,n,u,s,A,c,l⟩))∧Below w.heap.size w w':=by
 have HV : Hid (okE (k+1) ⟨o,n,u,s,A,c,l⟩=(empB s && (inB 0 3 u && inB 0 (if u=3 then 1 else 1000000000000000) n))):=Zh (by subst ho; exact (okE_num hl).symm);(have hlb : (((l.length : Int)) != opsN o)=false:=by simpa using hl);clear hl;simp only [PT.v];rw [HV.out];clear HV;have HO:=Zh ho;clear ho;go_enter Tryz.func45,Tryz.ntmps45;go_wp2_with fail;have HB : Hid (Below w.heap.size w ((w.alloc (.cells #[.int .i64 o,.int .i64 n,.int .i64 u,.string s,.slice A l.length c] 25)).alloc (.cells #[.int .i64 d] 3))):=Zh qbl;have HA : Hid (Blk ((w.alloc (.cells #[.int .i64 o,.int .i64 n,.int .i64 u,.string s,.slice A l.length c] 25)).alloc (.cells #[.int .i64 d] 3)) w.heap.size 25 #[.int .i64 o,.int .i64 n,.int .i64 u,.string s,.slice A l.length c]):=Zh ((Blk.new _ _ _).alloc _);have HC : Hid (Blk ((w.alloc (.cells #[.int .i64 o,.int .i64 n,.int .i64 u,.string s,.slice A l.length c] 25)).alloc (.cells #[.int .i64 d] 3)) (w.heap.size+1) 3 #[.int .i64 d]):=Zh (Blk.new' Zs);generalize (w.alloc (.cells #[.int .i64 o,.int .i64 n,.int .i64 u,.string s,.slice A l.length c] 25)).alloc (.cells #[.int .i64 d] 3)=w2 at *;obtain ⟨a0,a1,a2,a3,a4,af,az⟩:=HA.out.b5;obtain ⟨c0,cf,cz⟩:=HC.out.b1;refine wp_region_T (fun W=>W.cell? ⟨w.heap.size+1,0,none⟩=some (.int .i64 d)∧W.cell? ⟨w.heap.size,4,none⟩=some (.slice A l.length c)∧W.cell? ⟨w.heap.size,0,none⟩=some (.int .i64 o)) (fun _=>false) Zy ⟨c0,a4,a0⟩ (fun hHeld=>?_);refine Zr 0 ?_;clear hHeld;refine wpAnyT_take2 (i:=1) (v:=.bool false) rfl rfl Zy Zy Zy Zy (fun _ _ _ h=>h) (Or.inl ⟨by rfl, ?_⟩) (by first | assumption | trivial) ?_
 ·(intro w hSw; (try dsimp only at hSw); go_simp) <;> (first | (with_reducible rfl) | assumption | (simp; done) | (simp [*]; done) | (simp; omega))
 simp only [qsa,qsb,qsc];refine Zr 2 ?_;refine Zr 3 ?_;refine Zr 4 ?_;refine Zr 5 ?_;refine Zr 6 ?_;refine Zr 7 ?_;refine Zn 8 ?_;go_wp2_with fail;refine (syn_ops o _).mono ?_;rintro e w' ⟨rfl,rfl⟩;go_wp2_with fail;refine And.intro (by first | exact fun _=>⟨c0,a4,a0⟩ | exact ⟨c0,a4,a0⟩) ?_;have hHeld:=(⟨c0,a4,a0⟩ : w2.cell? ⟨w.heap.size+1,0,none⟩=some (.int .i64 d)∧w2.cell? ⟨w.heap.size,4,none⟩=some (.slice A l.length c)∧w2.cell? ⟨w.heap.size,0,none⟩=some (.int .i64 o));refine wpAnyT_take2 (i:=9) (v:=.bool false) rfl rfl Zy Zy Zy Zy (fun _ _ _ h=>h) (Or.inl ⟨by rfl, ?_⟩) (by first | assumption | trivial) ?_
 ·(intro w hSw; (try dsimp only at hSw); go_simp) <;> (first | (with_reducible rfl) | assumption | (simp; done) | (simp [*]; done) | (simp; omega))
 simp only [qsa,qsb,qsc];refine Zr 10 ?_;refine Ze ?_;clear hHeld;have ho:=HO.out;subst ho;clear hlb HO;by_cases hs : s.toList=[]
 ·(have hs2 : s.toList.isEmpty=true:=by rw [hs]; rfl);have HE : Hid (empB s=true):=Zh hs2;by_cases hu : u=3
  ·subst hu;have HV2 : Hid (∀ r,inB 0 1 n=r→r=(true && (true && inB 0 (if (3 : Int)=3 then 1 else 1000000000000000) n))):=Zh (fun r h=>by subst h; rfl);go_wp2_with fail;have hq0 : Below w2.heap.size w2 w2:=Below.refl _ _;refine (syn_in_one 0 3 3 w2.heap.size _ (by first | exact (Blk.new _ _ _).drew | exact Blk.new _ _ _)).mono ?_;rintro e w4 ⟨rfl,hb⟩;have hq : Below w2.heap.size w2 w4:=Below.trans qbh (hb.mono Zp);have hqs:=(hq).size;clear hb;obtain ⟨r1,hr1⟩ : ∃ r,inB 0 3 3=r:=⟨_,rfl⟩;rw [hr1];have HR1:=Zh hr1;clear hr1 a0 a1 a2 a3 a4 af az;obtain ⟨a0,a1,a2,a3,a4,af,az⟩:=(HA.out.later hq).b5;rcases r1
   ·go_wp2_with fail;go_ret;exact ⟨ret_bool (by rw [HE.out,HR1.out]; rfl),HB.out.trans (hq.mono HB.out.size)⟩
   ·go_wp2_with fail;refine (syn_in_one 0 1 n w4.heap.size _ (by first | exact (Blk.new _ _ _).drew | exact Blk.new _ _ _)).mono ?_;rintro e w5 ⟨rfl,hb⟩;have hp : Below w2.heap.size w2 w5:=Below.trans qbh (hb.mono Zp);have hqs:=(hp).size;clear hb;obtain ⟨r2,hr2⟩ : ∃ r,inB 0 1 n=r:=⟨_,rfl⟩;rw [hr2];have HR2:=Zh hr2;clear hr2;go_wp2_with fail;go_ret;exact ⟨ret_bool (by rw [HE.out,HR1.out]; first | exact HV2.out _ HR2.out | (rw [HR2.out]; rfl)),HB.out.trans (hp.mono HB.out.size)⟩
  ·have HV2 : Hid (∀ r,inB 0 1000000000000000 n=r→r=(true && (true && inB 0 (if u=3 then 1 else 1000000000000000) n))):=Zh (fun r h=>by subst h; rw [if_neg hu]; rfl);go_wp2_with fail;have hq0 : Below w2.heap.size w2 w2:=Below.refl _ _;refine (syn_in_one 0 3 u w2.heap.size _ (by first | exact (Blk.new _ _ _).drew | exact Blk.new _ _ _)).mono ?_;rintro e w4 ⟨rfl,hb⟩;have hq : Below w2.heap.size w2 w4:=Below.trans qbh (hb.mono Zp);have hqs:=(hq).size;clear hb;obtain ⟨r1,hr1⟩ : ∃ r,inB 0 3 u=r:=⟨_,rfl⟩;rw [hr1];have HR1:=Zh hr1;clear hr1 a0 a1 a2 a3 a4 af az;obtain ⟨a0,a1,a2,a3,a4,af,az⟩:=(HA.out.later hq).b5;rcases r1
   ·go_wp2_with fail;go_ret;exact ⟨ret_bool (by rw [HE.out,HR1.out]; rfl),HB.out.trans (hq.mono HB.out.size)⟩
   ·go_wp2_with fail;refine (syn_in_one 0 1000000000000000 n w4.heap.size _ (by first | exact (Blk.new _ _ _).drew | exact Blk.new _ _ _)).mono ?_;rintro e w5 ⟨rfl,hb⟩;have hp : Below w2.heap.size w2 w5:=Below.trans qbh (hb.mono Zp);have hqs:=(hp).size;clear hb;obtain ⟨r2,hr2⟩ : ∃ r,inB 0 1000000000000000 n=r:=⟨_,rfl⟩;rw [hr2];have HR2:=Zh hr2;clear hr2;go_wp2_with fail;go_ret;exact ⟨ret_bool (by rw [HE.out,HR1.out]; first | exact HV2.out _ HR2.out | (rw [HR2.out]; rfl)),HB.out.trans (hp.mono HB.out.size)⟩
 ·(have hs2 : s.toList.isEmpty=false:=by rw [List.isEmpty_eq_false_iff]; exact hs);have HE : Hid (empB s=false):=Zh hs2;by_cases hu : u=3
  ·subst hu;go_wp2_with fail;go_ret;exact ⟨ret_bool (by rw [HE.out]; rfl),HB.out.trans (Below.drew Zz)⟩
  ·go_wp2_with fail;go_ret;exact ⟨ret_bool (by rw [HE.out]; rfl),HB.out.trans (Below.drew Zz)⟩
theorem both_no3 {b : Bool} {n u : Int} {s : ByteArray} (h : empB s=false) : false=(bothZ n u && (empB s && b)):=by rw [h,Bool.false_and,Bool.and_false]
theorem both_yes3 {b : Bool} {s : ByteArray} (h : empB s=true) : b=(bothZ 0 0 && (empB s && b)):=by rw [h]; cases b <;> rfl
theorem syn_rightR (k : Nat) (hk : k≤1000) (ih : RightP k) (o n u : Int) (s : ByteArray) (A : Option Addr) (c : Nat) (l : List PT) (w : World) (d : Int) (hd : (k : Int)+1=d) (hl : (l.length : Int)=opsN o) (h0 : ¬ o=0) (h1 : ¬ o=1) (h2 : ¬ o=2) (h3 : ¬ o=3) (he : PT.At (· < w.heap.size) w ⟨o,n,u,s,A,c,l⟩) : Calls Tryz.prog 45 #[PT.v ⟨o,n,u,s,A,c,l⟩,.int .i64 d] w fun r w'=>r = .returned (.bool (okE (k+1) ⟨o,n,u,s,A,c,l⟩))∧Below w.heap.size w w':=by
 have HV:=Zh (okE_rest (k:=k) (n:=n) (u:=u) (s:=s) (A:=A) (c:=c) hl h0 (by rintro (h | h | h) <;> contradiction));(have hlb : (((l.length : Int)) != opsN o)=false:=by simpa using hl);(have hd0 : (d == 0)=false:=by rw [beq_eq_false_iff_ne]; omega);have hln:=he.rd.len;simp only [PT.a] at hln;have HE:=Zh he;have HI:=Zh (syn_right1 k hk ih);have HD:=Zh hd;clear hl ih he hd;simp only [PT.v];rw [← HV.out];clear HV;go_enter Tryz.func45,Tryz.ntmps45;go_wp2_with fail;have HB : Hid (Below w.heap.size w ((w.alloc (.cells #[.int .i64 o,.int .i64 n,.int .i64 u,.string s,.slice A l.length c] 25)).alloc (.cells #[.int .i64 d] 3))):=Zh qbl;have HA : Hid (Blk ((w.alloc (.cells #[.int .i64 o,.int .i64 n,.int .i64 u,.string s,.slice A l.length c] 25)).alloc (.cells #[.int .i64 d] 3)) w.heap.size 25 #[.int .i64 o,.int .i64 n,.int .i64 u,.string s,.slice A l.length c]):=Zh ((Blk.new _ _ _).alloc _);have HC : Hid (Blk ((w.alloc (.cells #[.int .i64 o,.int .i64 n,.int .i64 u,.string s,.slice A l.length c] 25)).alloc (.cells #[.int .i64 d] 3)) (w.heap.size+1) 3 #[.int .i64 d]):=Zh (Blk.new' Zs);generalize (w.alloc (.cells #[.int .i64 o,.int .i64 n,.int .i64 u,.string s,.slice A l.length c] 25)).alloc (.cells #[.int .i64 d] 3)=w2 at *;obtain ⟨a0,a1,a2,a3,a4,af,az⟩:=HA.out.b5;obtain ⟨c0,cf,cz⟩:=HC.out.b1;refine wp_region_T (fun W=>W.cell? ⟨w.heap.size+1,0,none⟩=some (.int .i64 d)∧W.cell? ⟨w.heap.size,4,none⟩=some (.slice A l.length c)∧W.cell? ⟨w.heap.size,0,none⟩=some (.int .i64 o)) (fun _=>false) Zy ⟨c0,a4,a0⟩ (fun hHeld=>?_);refine Zr 0 ?_;clear hHeld;refine wpAnyT_take2 (i:=1) (v:=.bool false) rfl rfl Zy Zy Zy Zy (fun _ _ _ h=>h) (Or.inl ⟨by rfl, ?_⟩) (by first | assumption | trivial) ?_
 ·(intro w hSw; (try dsimp only at hSw); go_simp) <;> (first | (with_reducible rfl) | assumption | (simp; done) | (simp [*]; done) | (simp; omega))
 simp only [qsa,qsb,qsc];refine Zr 2 ?_;refine Zr 3 ?_;refine Zr 4 ?_;refine Zr 5 ?_;refine Zr 6 ?_;refine Zr 7 ?_;refine Zn 8 ?_;go_wp2_with fail;refine (syn_ops o _).mono ?_;rintro e w' ⟨rfl,rfl⟩;go_wp2_with fail;refine And.intro (by first | exact fun _=>⟨c0,a4,a0⟩ | exact ⟨c0,a4,a0⟩) ?_;have hHeld:=(⟨c0,a4,a0⟩ : w2.cell? ⟨w.heap.size+1,0,none⟩=some (.int .i64 d)∧w2.cell? ⟨w.heap.size,4,none⟩=some (.slice A l.length c)∧w2.cell? ⟨w.heap.size,0,none⟩=some (.int .i64 o));refine wpAnyT_take2 (i:=9) (v:=.bool false) rfl rfl Zy Zy Zy Zy (fun _ _ _ h=>h) (Or.inl ⟨by rfl, ?_⟩) (by first | assumption | trivial) ?_
 ·(intro w hSw; (try dsimp only at hSw); go_simp) <;> (first | (with_reducible rfl) | assumption | (simp; done) | (simp [*]; done) | (simp; omega))
 simp only [qsa,qsb,qsc];refine Zr 10 ?_;refine Ze ?_;clear hHeld;clear hlb;by_cases hn : n=0
 ·subst hn;by_cases hu : u=0
  ·subst hu;by_cases hs : s.toList=[]
   ·(have hs2 : s.toList.isEmpty=true:=by rw [hs]; rfl);have HV:=Zh (both_yes3 (b:=l.all (okE k)) (s:=s) hs2);have HC2 : Hid (w2.cell? ⟨w.heap.size+1,0,none⟩=some (.int .i64 ((k : Int)+1))∧w.heap.size+1<w2.heap.size):=Zh (by rw [HD.out]; exact ⟨c0,cz⟩);have HEW:=Zh (HE.out.later (HB.out.trans (Below.drew Zz)));go_wp2_with fail;refine (hasE_r ⟨A,c,l⟩ (fun x=>!okE k x) (w.heap.size+1) _ HEW.out.rd (fun W x hx hW=>HI.out x _ W ((HEW.out.all x hx).later hW) (((hW.block _ HC2.out.2 |> World.cell?_of_block).trans HC2.out.1)) (Nat.lt_of_lt_of_le HC2.out.2 hW.size))).mono ?_;rintro e w' ⟨rfl,hb⟩;have hB : Below w.heap.size w w':=HB.out.trans ((Below.drew Zz |>.trans hb).mono HB.out.size);clear hb;rw [show (fun x=>!okE k x)=(fun x=>!(okE k) x) from rfl];obtain ⟨r,hr⟩ : ∃ r,l.any (fun x=>!okE k x)=r:=⟨_,rfl⟩;simp only [hr];have HR : Hid ((!r)=l.all (okE k)):=Zh (by rw [← hr]; exact any_not _ _);clear hr;go_wp2_with fail;go_ret;exact ⟨ret_bool (HR.out.trans HV.out),hB⟩
   ·(have hs2 : s.toList.isEmpty=false:=by rw [List.isEmpty_eq_false_iff]; exact hs);have HV:=Zh (both_no3 (b:=l.all (okE k)) (n:=0) (u:=0) (s:=s) hs2);go_wp2_with fail;go_ret;exact ⟨ret_bool HV.out,HB.out.trans (Below.drew Zz)⟩
  ·have HV:=Zh (both_no2 (n:=0) (b:=empB s && l.all (okE k)) hu);go_wp2_with fail;go_ret;exact ⟨ret_bool HV.out,HB.out.trans (Below.drew Zz)⟩
 ·have HV:=Zh (both_no1 (u:=u) (b:=empB s && l.all (okE k)) hn);go_wp2_with fail;go_ret;exact ⟨ret_bool HV.out,HB.out.trans (Below.drew Zz)⟩
theorem syn_rightS (k : Nat) (hk : k≤1000) (ih : RightP k) : RightP (k+1):=by
 intro e w he;obtain ⟨o,n,u,s,A,c,l⟩:=e;have hln:=he.rd.len;have hs:=he.str;simp only [PT.a] at hln;simp only [PT.s] at hs;(have hd0 : (((k+1 : Nat) : Int) == 0)=false:=by rw [beq_eq_false_iff_ne]; omega);by_cases hl : (l.length : Int)=opsN o
 ·by_cases h0 : o=0
  ·exact syn_rightM k o n u s A c l w _ hd0 hln hl h0
  by_cases h1 : o=1
  ·exact syn_rightN k o n u s A c l w _ hd0 hln hl h0 (.inl h1) hs
  by_cases h2 : o=2
  ·exact syn_rightN k o n u s A c l w _ hd0 hln hl h0 (.inr (.inl h2)) hs
  by_cases h3 : o=3
  ·exact syn_rightN k o n u s A c l w _ hd0 hln hl h0 (.inr (.inr h3)) hs
  exact syn_rightR k hk ih o n u s A c l w _ Zs hl h0 h1 h2 h3 he
 ·exact syn_rightL k o n u s A c l w _ hd0 hln hl
theorem syn_right : ∀ k : Nat,k≤1000→RightP k
 | 0,_=>fun e w _=>syn_right0 e w
 | k+1,hk=>syn_rightS k Zo (syn_right k Zo)
def rexp (e : PT) : Bool:=okE 12 e
theorem syn_rexp (e : PT) (w : World) (he : PT.At (· < w.heap.size) w e) : Calls Tryz.prog 18 #[e.v] w fun r w'=>r = .returned (.bool (rexp e))∧Below w.heap.size w w':=by
 have HI:=Zh (fun w2 (h : PT.At (· < w2.heap.size) w2 e)=>syn_right 12 Zo e w2 h);have HE:=Zh he;clear he;obtain ⟨o,n,u,s,A,c,l⟩:=e;simp only [PT.v] at HI ⊢;go_enter Tryz.func18,Tryz.ntmps18;go_wp2_with fail;have HB : Hid (Below w.heap.size w (w.alloc (.cells #[.int .i64 o,.int .i64 n,.int .i64 u,.string s,.slice A l.length c] 25))):=Zh qbl;refine (HI.out _ (HE.out.later HB.out)).mono ?_;rintro e w' ⟨rfl,hb⟩;have hB : Below w.heap.size w w':=HB.out.trans (hb.mono HB.out.size);clear hb;obtain ⟨r,hr⟩ : ∃ r,okE 12 ⟨o,n,u,s,A,c,l⟩=r:=⟨_,rfl⟩;rw [hr];have HR : Hid (r=rexp ⟨o,n,u,s,A,c,l⟩):=Zh hr.symm;clear hr;go_wp2_with fail;go_ret;exact ⟨ret_bool HR.out,hB⟩
def uniqB : List ByteArray→List ByteArray→Bool
  | _,[]=>true
  | p,x :: r=>nameB x && (!inL x p && uniqB (p ++ [x]) r)
theorem uniqB_no {p r : List ByteArray} {x : ByteArray} (h : nameB x=false) : uniqB p (x :: r)=false:=by unfold uniqB; rw [h]; rfl
theorem uniqB_had {p r : List ByteArray} {x : ByteArray} (h : inL x p=true) : uniqB p (x :: r)=false:=by unfold uniqB; rw [h]; simp
theorem uniqB_on {p r : List ByteArray} {x : ByteArray} (h : nameB x=true) (k : inL x p=false) : uniqB p (x :: r)=uniqB (p ++ [x]) r:=by rw [uniqB,h,k]; rfl
structure LT where
  nm : ByteArray
  b : PT
def LT.enc (x : LT) : List Value:=.string x.nm :: x.b.enc
def LT.v : LT→Value | ⟨nm,o,n,u,s,A,c,l⟩=>.agg #[.string nm,.int .i64 o,.int .i64 n,.int .i64 u,.string s,.slice A l.length c]
structure LT.At (F : Nat→Prop) (w : World) (x : LT) : Prop where
  nm : x.nm.size≤9223372036854775807
  b : PT.At F w x.b
structure LetsAt (F : Nat→Prop) (w : World) (s : Sl LT) : Prop where
  rd : Rd F 6 LT.enc w s
  all : ∀ x,x ∈ s.l→LT.At F w x
theorem LT.At.keep {F G : Nat→Prop} {w w' : World} {e : LT} (h : LT.At F w e) (hk : ∀ b,F b→w'.heap[b]? = w.heap[b]?) (hFG : ∀ b,F b→G b) : LT.At G w' e:=⟨h.nm,h.b.keep hk hFG⟩
theorem LetsAt.keep {F G : Nat→Prop} {w w' : World} {s : Sl LT} (h : LetsAt F w s) (hk : ∀ b,F b→w'.heap[b]? = w.heap[b]?) (hFG : ∀ b,F b→G b) : LetsAt G w' s :=
 ⟨(h.rd.keep hk).mono hFG,fun x hx=>(h.all x hx).keep hk hFG⟩
theorem LT.At.later {w w' : World} {e : LT} (h : LT.At (· < w.heap.size) w e) (hb : Below w.heap.size w w') : LT.At (· < w'.heap.size) w' e :=
 h.keep (fun b hb'=>hb.block b hb') (fun b hb'=>Nat.lt_of_lt_of_le hb' hb.size)
theorem LetsAt.later {w w' : World} {s : Sl LT} (h : LetsAt (· < w.heap.size) w s) (hb : Below w.heap.size w w') : LetsAt (· < w'.heap.size) w' s :=
 h.keep (fun b hb'=>hb.block b hb') (fun b hb'=>Nat.lt_of_lt_of_le hb' hb.size)
structure Byl where
  nm : ByteArray
  lets : Sl LT
  ad : PT
  fa : PT
  la : PT
  no : PT
  q : Int
  sh : Int
  ch : Int
def Byl.v : Byl→Value
  | ⟨nm,L,⟨o,n,u,s,A,c,l⟩,⟨o2,n2,u2,s2,A2,c2,l2⟩,⟨o3,n3,u3,s3,A3,c3,l3⟩,⟨o4,n4,u4,s4,A4,c4,l4⟩,q,sh,ch⟩ =>
    .agg #[.string nm,.slice L.A L.l.length L.c,.int .i64 o,.int .i64 n,.int .i64 u,.string s,.slice A l.length c,.int .i64 o2,.int .i64 n2,.int .i64 u2,.string s2,.slice A2 l2.length c2,.int .i64 o3,.int .i64 n3,.int .i64 u3,.string s3,.slice A3 l3.length c3,.int .i64 o4,.int .i64 n4,.int .i64 u4,.string s4,.slice A4 l4.length c4,.int .i64 q,.int .i64 sh,.int .i64 ch]
structure Byl.At (F : Nat→Prop) (w : World) (b : Byl) : Prop where
  nm : b.nm.size≤9223372036854775807
  lets : LetsAt F w b.lets
  ad : PT.At F w b.ad
  fa : PT.At F w b.fa
  la : PT.At F w b.la
  no : PT.At F w b.no
theorem Byl.At.later {w w' : World} {b : Byl} (h : Byl.At (· < w.heap.size) w b) (hb : Below w.heap.size w w') : Byl.At (· < w'.heap.size) w' b :=
 ⟨h.nm,h.lets.later hb,h.ad.later hb,h.fa.later hb,h.la.later hb,h.no.later hb⟩
def namesL (l : List LT) : List ByteArray:=l.map LT.nm
def bylB (b : Byl) : Bool :=
  b.lets.l.all (fun x=>rexp x.b) && (nameB b.nm && (inB 0 1000 b.q && inB 0 1000 b.sh) && inB 1 1000 b.ch && (uniqB [] (namesL b.lets.l) && decide ((b.lets.l.length : Int)≤20)) && [b.ad,b.fa,b.la,b.no].all rexp)
theorem infoStr : Info Tryz.prog 9 (.string ByteArray.empty) 1 16:=info_mk Zy rfl
theorem Blk.b25 {w : World} {g : Nat} {t : TypeId} {x0 x1 x2 x3 x4 x5 x6 x7 x8 x9 x10 x11 x12 x13 x14 x15 x16 x17 x18 x19 x20 x21 x22 x23 x24 : Value} (h : Blk w g t #[x0,x1,x2,x3,x4,x5,x6,x7,x8,x9,x10,x11,x12,x13,x14,x15,x16,x17,x18,x19,x20,x21,x22,x23,x24]) : w.cell? ⟨g,0,none⟩=some x0∧w.cell? ⟨g,1,none⟩=some x1∧w.cell? ⟨g,2,none⟩=some x2∧w.cell? ⟨g,3,none⟩=some x3∧w.cell? ⟨g,4,none⟩=some x4∧w.cell? ⟨g,5,none⟩=some x5∧w.cell? ⟨g,6,none⟩=some x6∧w.cell? ⟨g,7,none⟩=some x7∧w.cell? ⟨g,8,none⟩=some x8∧w.cell? ⟨g,9,none⟩=some x9∧w.cell? ⟨g,10,none⟩=some x10∧w.cell? ⟨g,11,none⟩=some x11∧w.cell? ⟨g,12,none⟩=some x12∧w.cell? ⟨g,13,none⟩=some x13∧w.cell? ⟨g,14,none⟩=some x14∧w.cell? ⟨g,15,none⟩=some x15∧w.cell? ⟨g,16,none⟩=some x16∧w.cell? ⟨g,17,none⟩=some x17∧w.cell? ⟨g,18,none⟩=some x18∧w.cell? ⟨g,19,none⟩=some x19∧w.cell? ⟨g,20,none⟩=some x20∧w.cell? ⟨g,21,none⟩=some x21∧w.cell? ⟨g,22,none⟩=some x22∧w.cell? ⟨g,23,none⟩=some x23∧w.cell? ⟨g,24,none⟩=some x24∧(∀ o,w.frozen? ⟨g,o,none⟩=false)∧g<w.heap.size:=⟨h.cell 0,h.cell 1,h.cell 2,h.cell 3,h.cell 4,h.cell 5,h.cell 6,h.cell 7,h.cell 8,h.cell 9,h.cell 10,h.cell 11,h.cell 12,h.cell 13,h.cell 14,h.cell 15,h.cell 16,h.cell 17,h.cell 18,h.cell 19,h.cell 20,h.cell 21,h.cell 22,h.cell 23,h.cell 24,h.frozen,h.lt⟩
theorem PT.enc_k : ∀ x : PT,x.enc.length=5 | ⟨_,_,_,_,_,_,_⟩=>rfl
theorem rd_ones {W : World} {g : Nat} {t : TypeId} {x : ByteArray} (h : Blk W g t #[.string x]) : Rd (· < W.heap.size) 1 senc W ⟨some ⟨g,0,none⟩,1,[x]⟩ :=
 ⟨Nat.le_refl _,by unfold maxLen; simp,fun h=>by simp at h,fun i y hy=>by
  have hi : i=0:=by
   rcases i with _ | i
   ·rfl
   ·simp at hy
  subst hi;(have hxy : x=y:=by simpa using hy);subst hxy
  exact ⟨g,0,rfl,h.lt,fun j u hu=>by
   rw [Nat.zero_mul,Nat.add_zero,Nat.zero_add,h.cell];simpa [senc] using hu⟩⟩
theorem all_no {L : List LT} {x : LT} (hx : x ∈ L) (h : rexp x.b=false) : L.all (fun x=>rexp x.b)=false:=List.all_eq_false.2 ⟨x,hx,by simp [h]⟩
theorem bylB_no {b : Byl} (h : b.lets.l.all (fun x=>rexp x.b)=false) : bylB b=false:=by unfold bylB; rw [h]; rfl
theorem bylB_is {b : Byl} (h : b.lets.l.all (fun x=>rexp x.b)=true) : bylB b=(nameB b.nm && [b.q,b.sh].all (inB 0 1000) && inB 1 1000 b.ch && (uniqB [] (namesL b.lets.l) && decide (((namesL b.lets.l).length : Int)≤20)) && [b.ad,b.fa,b.la,b.no].all rexp):=by
 unfold bylB; rw [h,Bool.true_and,namesL,List.length_map]; simp only [List.all_cons,List.all_nil,Bool.and_true]
theorem and5a (b c d e : Bool) : false=(false && b && c && d && e):=rfl
theorem and5b (a c d e : Bool) : false=(a && false && c && d && e):=by cases a <;> rfl
theorem and5c (a b d e : Bool) : false=(a && b && false && d && e):=by cases a <;> cases b <;> rfl
theorem and5d (a b c e : Bool) : false=(a && b && c && false && e):=by cases a <;> cases b <;> cases c <;> rfl
theorem and5e (e : Bool) : (true && true && true && true && e)=e:=rfl
theorem names_sz {F : Nat→Prop} {w : World} {s : Sl LT} (h : LetsAt F w s) : ∀ x,x ∈ namesL s.l→x.size≤9223372036854775807:=by
 intro x hx;obtain ⟨y,hy,rfl⟩:=List.mem_map.1 hx;exact (h.all y hy).nm
theorem Cells.c6 {w : World} {b o : Nat} {x y z s t u : Value} (h : Cells w b o [x,y,z,s,t,u]) : w.cell? ⟨b,o,none⟩=some x∧w.cell? ⟨b,o+1,none⟩=some y∧w.cell? ⟨b,o+2,none⟩=some z∧w.cell? ⟨b,o+3,none⟩=some s∧w.cell? ⟨b,o+4,none⟩=some t∧w.cell? ⟨b,o+5,none⟩=some u:=⟨h 0 _ rfl,h 1 _ rfl,h 2 _ rfl,h 3 _ rfl,h 4 _ rfl,h 5 _ rfl⟩
def sFav : ByteArray:=⟨#[102,97,118,111,117,114]⟩
def sBal : ByteArray:=⟨#[98,97,108,97,110,99,101]⟩
def sTri : ByteArray:=⟨#[116,114,105,112,115]⟩
def sNos : ByteArray:=⟨#[110,111,115,104,111,119,115]⟩
def sDir : ByteArray:=⟨#[100,105,114,101,99,116]⟩
def sRid : ByteArray:=⟨#[114,105,100,101]⟩
def sDel : ByteArray:=⟨#[100,101,108,97,121]⟩
def sNot : ByteArray:=⟨#[110,111,116,105,99,101]⟩
def sSea : ByteArray:=⟨#[115,101,97,116,115]⟩
def sCha : ByteArray:=⟨#[99,104,97,105,114,115]⟩
def sBag : ByteArray:=⟨#[98,97,103,115]⟩
def sRis : ByteArray:=⟨#[114,105,100,101,114,115]⟩
def memU (s : ByteArray) : Option Int:=if s.toList == [102,97,118,111,117,114] then some 2 else if s.toList == [98,97,108,97,110,99,101] then some 1 else if s.toList == [116,114,105,112,115] then some 0 else if s.toList == [110,111,115,104,111,119,115] then some 0 else none
def triU (s : ByteArray) : Option Int:=if s.toList == [100,105,114,101,99,116] then some 2 else if s.toList == [114,105,100,101] then some 2 else if s.toList == [100,101,108,97,121] then some 2 else if s.toList == [110,111,116,105,99,101] then some 2 else if s.toList == [115,101,97,116,115] then some 0 else if s.toList == [99,104,97,105,114,115] then some 0 else if s.toList == [98,97,103,115] then some 0 else if s.toList == [114,105,100,101,114,115] then some 0 else none
def optV (u : Option Int) : Value:=.tuple #[.int .i64 (u.getD 0),.bool u.isSome]
theorem un_member (s : ByteArray) (w : World) : Calls Tryz.prog 147 #[.string s] w fun r w'=>r = .returned (optV (memU s))∧w=w':=by
 obtain ⟨V,hV⟩ : ∃ V,optV (memU s)=V:=⟨_,rfl⟩;rw [hV];have HV:=Zh hV;clear hV;go_enter Tryz.func147,Tryz.ntmps147;go_wp2_with fail
 all_goals
  refine bodyPost_ret (v:=V) ?_ rfl ⟨rfl,rfl⟩;rw [← HV.out];clear HV
  first
   | (simp [results,Tryz.results147,go_sem,optV,memU, *]; done)
   | (exfalso; simp_all; done)
theorem un_trip (s : ByteArray) (w : World) : Calls Tryz.prog 146 #[.string s] w fun r w'=>r = .returned (optV (triU s))∧w=w':=by
 obtain ⟨V,hV⟩ : ∃ V,optV (triU s)=V:=⟨_,rfl⟩;rw [hV];have HV:=Zh hV;clear hV;go_enter Tryz.func146,Tryz.ntmps146;go_wp2_with fail
 all_goals
  refine bodyPost_ret (v:=V) ?_ rfl ⟨rfl,rfl⟩;rw [← HV.out];clear HV
  first
   | (simp [results,Tryz.results146,go_sem,optV,triU, *]; done)
   | (exfalso; simp_all; done)
def pairU (op a b : Int) : Int :=
  if op=4∨op=5∨op=8∨op=9 then (if a=b∧a≠3 then a else -1)
  else if op=6 then (if a=0∧b≠3 then b else if b=0∧a≠3 then a else -1)
  else if op=7 then (if b=0∧a≠3 then a else if a=b∧a≠3∧a≠0 then 0 else -1)
  else if op=10 then (if a=b∧a≠3 then 3 else -1)
  else if op=11 then (if a=b then 3 else -1)
  else -1
theorem un_pair (op a b : Int) (w : World) : Calls Tryz.prog 171 #[.int .i64 op,.int .i64 a,.int .i64 b] w fun r w'=>r = .returned (.int .i64 (pairU op a b))∧w=w':=by
 obtain ⟨V,hV⟩ : ∃ V,pairU op a b=V:=⟨_,rfl⟩;rw [hV];have HV:=Zh hV;clear hV;go_enter Tryz.func171,Tryz.ntmps171;go_wp2_with fail
 all_goals
  refine bodyPost_ret (v:=.int .i64 V) ?_ rfl ⟨rfl,rfl⟩;rw [← HV.out];clear HV
  first
   | (simp [results,Tryz.results171,go_sem,pairU, *]; done)
   | (exfalso; simp_all; done)
   | (simp [results,Tryz.results171,go_sem]; unfold pairU; simp_all; done)
end Go.Proofs.YtcgocdhhneckhaaGreatDoor
