/- RunesTells' walk for every input of at most 2^20 bytes. Conditions: the two tables of the library lie as laid. -/
import Derived.Test.YtjkialgdaikijaaDoorTellsW
namespace Go.Proofs.YtjkialgdaikijaaDoor
open Go.RowKit Go.Lib
theorem tells_all (s : ByteArray) (own : Bool) (a : Option Addr) (len cap : Nat) (zs : List Int) (b : Int) (near : Bool) (r : Int) (w : World) (h : (a = none ∧ len = 0 ∧ cap = 0 ∧ zs = []) ∨
    ∃ x, a = some x ∧ len ≤ cap ∧ cap ≤ maxLen ∧ zs.length = cap ∧ (∀ i, i < zs.length → w.cell? (x.add i) = some (.int .u8 (zs.getD i 0))) ∧ ∀ n ∈ zs, (Lit.int .u8 n).wf = true) (hs : s.data.toList.length ≤ 1048576) (hr : (Lit.int .i32 r).wf = true) (hT : Tabs w) :
    Calls Tryd.prog 3 #[.string s, .bool own, .slice a len cap, .int .i64 b, .bool near, .int .i32 r] w fun e w' => e = .returned (.bool true) ∧ Below w.heap.size w w' := by
  obtain ⟨h1, h2⟩ := bts_of a len cap zs w h
  simp [Lit.wf, IntKind.min, IntKind.max, IntKind.bits, IntKind.signed] at hr
  exact tells_walk s own a len cap _ b near r w h1 h2 (by simpa using hs) (by omega) (by omega) hT
end Go.Proofs.YtjkialgdaikijaaDoor
