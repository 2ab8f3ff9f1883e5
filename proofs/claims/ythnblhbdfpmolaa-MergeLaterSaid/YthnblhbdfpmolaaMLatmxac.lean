/- The data of stocks, notes and phones: how they lie in cells. -/
import Derived.Test.YthnblhbdfpmolaaMLatmxab
namespace Go.Proofs.Ythnblhbdfpmolaa
open Go.RowKit
def ienc (n : Int) : List Value := [.int .i64 n]
theorem ienc_k (n : Int) : (ienc n).length = 1 := rfl
theorem ienc_one (n : Int) : ∀ u ∈ ienc n, u.oneCell' = true := by intro u hu; simp [ienc] at hu; subst hu; rfl
structure Loan where
  p : Int
  u : Int
  s : Int
deriving DecidableEq
def Loan.enc (x : Loan) : List Value := [.int .i64 x.p, .int .i64 x.u, .int .i64 x.s]
structure Stock where
  T : Int
  U : Int
  L : Sl Loan
def Stock.enc (x : Stock) : List Value := [.int .i64 x.T, .int .i64 x.U, .slice x.L.A x.L.l.length x.L.c]
structure StockD where
  T : Int
  U : Int
  L : List Loan
deriving DecidableEq
def Stock.d (x : Stock) : StockD := ⟨x.T, x.U, x.L.l⟩
structure Note where
  dev : Int
  seq : Int
  af : Sl Int
  tm : Int
  tx : ByteArray
def Note.enc (x : Note) : List Value := [.int .i64 x.dev, .int .i64 x.seq, .slice x.af.A x.af.l.length x.af.c, .int .i64 x.tm, .string x.tx]
structure NoteD where
  dev : Int
  seq : Int
  af : List Int
  tm : Int
  tx : ByteArray
def Note.d (x : Note) : NoteD := ⟨x.dev, x.seq, x.af.l, x.tm, x.tx⟩
structure Hold where
  st : Int
  u : Int
  s : Int
deriving DecidableEq
def Hold.enc (x : Hold) : List Value := [.int .i64 x.st, .int .i64 x.u, .int .i64 x.s]
structure Phone where
  id : Int
  cut : Bool
  H : Sl Hold
  N : Sl Note
  S : Sl Int
structure PhoneD where
  id : Int
  cut : Bool
  H : List Hold
  N : List NoteD
  S : List Int
def Phone.d (x : Phone) : PhoneD := ⟨x.id, x.cut, x.H.l, x.N.l.map Note.d, x.S.l⟩
theorem Loan.k (x : Loan) : x.enc.length = 3 := rfl
theorem Loan.one (x : Loan) : ∀ u ∈ x.enc, u.oneCell' = true := by intro u hu; simp [Loan.enc] at hu; rcases hu with rfl | rfl | rfl <;> rfl
theorem Hold.k (x : Hold) : x.enc.length = 3 := rfl
theorem Hold.one (x : Hold) : ∀ u ∈ x.enc, u.oneCell' = true := by intro u hu; simp [Hold.enc] at hu; rcases hu with rfl | rfl | rfl <;> rfl
theorem Stock.k (x : Stock) : x.enc.length = 3 := rfl
theorem Stock.one (x : Stock) : ∀ u ∈ x.enc, u.oneCell' = true := by intro u hu; simp [Stock.enc] at hu; rcases hu with rfl | rfl | rfl <;> rfl
theorem Note.k (x : Note) : x.enc.length = 5 := rfl
theorem Note.one (x : Note) : ∀ u ∈ x.enc, u.oneCell' = true := by intro u hu; simp [Note.enc] at hu; rcases hu with rfl | rfl | rfl | rfl | rfl <;> rfl
theorem infoInt : Info Try.prog 3 (.int .i64 0) 1 8 := info_mk (by kernel_rfl) rfl
theorem infoLoan : Info Try.prog 136 (.agg #[.int .i64 0, .int .i64 0, .int .i64 0]) 3 24 := info_mk (by kernel_rfl) rfl
theorem infoHold : Info Try.prog 62 (.agg #[.int .i64 0, .int .i64 0, .int .i64 0]) 3 24 := info_mk (by kernel_rfl) rfl
theorem infoStock : Info Try.prog 66 (.agg #[.int .i64 0, .int .i64 0, .slice none 0 0]) 3 40 := info_mk (by kernel_rfl) rfl
theorem infoNote : Info Try.prog 61 (.agg #[.int .i64 0, .int .i64 0, .slice none 0 0, .int .i64 0, .string ByteArray.empty]) 5 64 := info_mk (by kernel_rfl) rfl
def RdNotes (F : Nat → Prop) (w : World) (s : Sl Note) : Prop := Rd F 5 Note.enc w s ∧ ∀ n, n ∈ s.l → Rd F 1 ienc w n.af
def RdStocks (F : Nat → Prop) (w : World) (s : Sl Stock) : Prop := Rd F 3 Stock.enc w s ∧ ∀ x, x ∈ s.l → Rd F 3 Loan.enc w x.L
def RdPhone (F : Nat → Prop) (w : World) (p : Phone) : Prop := Rd F 3 Hold.enc w p.H ∧ RdNotes F w p.N ∧ Rd F 1 ienc w p.S
section
variable {F G : Nat → Prop} {w w' : World}
theorem RdNotes.keep {s : Sl Note} (h : RdNotes F w s) (hk : ∀ b, F b → w'.heap[b]? = w.heap[b]?) : RdNotes F w' s := ⟨h.1.keep hk, fun n hn => (h.2 n hn).keep hk⟩
theorem RdNotes.mono {s : Sl Note} (h : RdNotes F w s) (hk : ∀ b, F b → G b) : RdNotes G w s := ⟨h.1.mono hk, fun n hn => (h.2 n hn).mono hk⟩
theorem RdStocks.keep {s : Sl Stock} (h : RdStocks F w s) (hk : ∀ b, F b → w'.heap[b]? = w.heap[b]?) : RdStocks F w' s := ⟨h.1.keep hk, fun n hn => (h.2 n hn).keep hk⟩
theorem RdStocks.mono {s : Sl Stock} (h : RdStocks F w s) (hk : ∀ b, F b → G b) : RdStocks G w s := ⟨h.1.mono hk, fun n hn => (h.2 n hn).mono hk⟩
theorem RdPhone.keep {s : Phone} (h : RdPhone F w s) (hk : ∀ b, F b → w'.heap[b]? = w.heap[b]?) : RdPhone F w' s := ⟨h.1.keep hk, h.2.1.keep hk, h.2.2.keep hk⟩
theorem RdPhone.mono {s : Phone} (h : RdPhone F w s) (hk : ∀ b, F b → G b) : RdPhone G w s := ⟨h.1.mono hk, h.2.1.mono hk, h.2.2.mono hk⟩
end
/-- 'reads below the world's own end' goes over into any later world. -/
theorem RdNotes.later {B : Nat} {w w' : World} {s : Sl Note} (h : RdNotes (· < B) w s) (hb : Below B w w') (hB : B ≤ w.heap.size) : RdNotes (· < w'.heap.size) w' s :=
  (h.keep fun b hb' => hb.block b hb').mono fun _ hb' => Nat.lt_of_lt_of_le hb' (Nat.le_trans hB hb.size)
theorem RdStocks.later {B : Nat} {w w' : World} {s : Sl Stock} (h : RdStocks (· < B) w s) (hb : Below B w w') (hB : B ≤ w.heap.size) : RdStocks (· < w'.heap.size) w' s :=
  (h.keep fun b hb' => hb.block b hb').mono fun _ hb' => Nat.lt_of_lt_of_le hb' (Nat.le_trans hB hb.size)
theorem RdPhone.later {B : Nat} {w w' : World} {s : Phone} (h : RdPhone (· < B) w s) (hb : Below B w w') (hB : B ≤ w.heap.size) : RdPhone (· < w'.heap.size) w' s :=
  (h.keep fun b hb' => hb.block b hb').mono fun _ hb' => Nat.lt_of_lt_of_le hb' (Nat.le_trans hB hb.size)
end Go.Proofs.Ythnblhbdfpmolaa
