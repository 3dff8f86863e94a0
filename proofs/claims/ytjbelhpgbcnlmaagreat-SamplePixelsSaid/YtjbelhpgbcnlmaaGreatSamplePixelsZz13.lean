/- Several texts in one: Arguments of the rows, opened: sizes, places, rows of numbers and of places. -/
import Derived.Test.YtjbelhpgbcnlmaaGreatSamplePixelsZz2
import Derived.Test.YtjbelhpgbcnlmaaGreatSamplePixelsZz1
section
set_option linter.unusedVariables false
namespace Go.Proofs.YtjbelhpgbcnlmaaGreat
open Go.RowKit
def I64 (x:Int):Prop:=-9223372036854775808≤x∧x≤9223372036854775807
theorem ca_i64:Tryz.prog.cellsOf 2=1:=by kernel_rfl
theorem ca_int:Tryz.prog.cellsOf 3=1:=by kernel_rfl
theorem open_nums {w:World} {A:Option Addr} {n c:Nat} (h:Rv Tryz.prog w 30 [.slice A n c]):∃ l:List Int,l.length=n∧n≤c∧c≤maxLen∧(∀ z∈l,-9223372036854775808≤z∧z≤9223372036854775807)∧Rd w w.heap.size A (l.map (Value.int .i64)):=by
 obtain ⟨A',n',c',l,e,h1,h2,h3,h4,h5⟩:=rv_ints Tryz.underlying30 Tryz.underlying2 ca_i64 h
 simp at e
 obtain ⟨rfl,rfl,rfl⟩:=e
 exact ⟨l,h3,h1,h2,fun z hz=>wf_i64 (h4 z hz),h5⟩
def Pls (w:World) (B:Nat) (A:Option Addr) (n:Nat) (f:Nat→Int × Int × Int):Prop :=
 ∀ k,k<n→∃ b o,A=some ⟨b,o,none⟩∧b<B∧w.cell? ⟨b,o+k*3,none⟩=some (.int .i64 (f k).1)∧w.cell? ⟨b,o+k*3+1,none⟩=some (.int .i64 (f k).2.1)∧w.cell? ⟨b,o+k*3+2,none⟩=some (.int .i64 (f k).2.2)
theorem Pls.below {w w':World} {B:Nat} {A:Option Addr} {n:Nat} {f:Nat→Int × Int × Int} (h:Pls w B A n f) (hb:Below B w w'):Pls w' B A n f:=fun k hk=>by
 obtain ⟨b,o,e,hlt,h1,h2,h3⟩:=h k hk
 exact ⟨b,o,e,hlt,(hb.cell (by exact hlt)).trans h1,(hb.cell (by exact hlt)).trans h2,(hb.cell (by exact hlt)).trans h3⟩
def I3 (p:Int × Int × Int):Prop:=I64 p.1∧I64 p.2.1∧I64 p.2.2
end Go.Proofs.YtjbelhpgbcnlmaaGreat
end
