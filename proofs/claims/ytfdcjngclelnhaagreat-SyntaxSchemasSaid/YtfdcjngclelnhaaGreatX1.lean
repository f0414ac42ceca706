/- Part of a proof. -/
import Derived.Test.YtfdcjngclelnhaaGreatXS
set_option linter.unusedSectionVars false
set_option linter.unusedSimpArgs false
set_option linter.unusedVariables false
namespace Go.Proofs.YtfdcjngclelnhaaGreat
open Go Go.RowKit
set_option maxRecDepth 100000
set_option maxHeartbeats 4000000
noncomputable section
inductive Q1v where
 | en (s0:B132)
 | eo (s0:B132) (es0:List D) (w0:Nat)
 | l0 (y0:Int) (y1:Int) (y2:List UInt8) (y3:List UInt8) (y4:Nat)
 | l1 (y0:Int) (y1:List UInt8) (y2:List UInt8) (y3:Nat)
 | l2 (y0:Int) (y1:Int) (y2:List UInt8) (y3:List UInt8) (y4:Nat) (y5:List D) (y6:Nat)
 | l3 (y0:Int) (y1:List UInt8) (y2:List UInt8) (y3:Nat) (y4:List D) (y5:Nat)
def QjP:Q1v → Pth × List AV × Heap
 | .en s0=>([],startT Tryz.f114 [.ptr (some (0,0))],[some (.cells 132 [.dat (.str (s0).c0),.dat (.int .i64 (s0).c1),.dat .nils] s0.ver)])
 | .eo s0 es0 w0=>([],startT Tryz.f114 [.ptr (some (0,0))],[some (.cells 132 [.dat (.str (s0).c0),.dat (.int .i64 (s0).c1),.own (.at 0 2 w0 107) es0] s0.ver)])
 | .l0 y0 y1 y2 y3 y4=>([1,1,1,1],mkT 71 [(0,.ptr (some (0,0))),(3,.dat (.int .i64 y0)),(4,.dat (.int .i64 y1)),(5,.dat (.str y2))],[some (.cells 132 [.dat (.str y3),.dat (.int .i64 y0),.dat .nils] y4)])
 | .l1 y0 y1 y2 y3=>([1,0,0,0,1,0,1,1,1],mkT 71 [(0,.ptr (some (0,0))),(3,.dat (.int .i64 y0)),(5,.dat (.str y1))],[some (.cells 132 [.dat (.str y2),.dat (.int .i64 y0),.dat .nils] y3)])
 | .l2 y0 y1 y2 y3 y4 y5 y6=>([1,1,1,1],mkT 71 [(0,.ptr (some (0,0))),(3,.dat (.int .i64 y0)),(4,.dat (.int .i64 y1)),(5,.dat (.str y2))],[some (.cells 132 [.dat (.str y3),.dat (.int .i64 y0),.own (.at 0 2 y4 107) y5] y6)])
 | .l3 y0 y1 y2 y3 y4 y5=>([1,0,0,0,1,0,1,1,1],mkT 71 [(0,.ptr (some (0,0))),(3,.dat (.int .i64 y0)),(5,.dat (.str y1))],[some (.cells 132 [.dat (.str y2),.dat (.int .i64 y0),.own (.at 0 2 y3 107) y4] y5)])
def QB (S:Q9) (r:Int × B132 → Prop) (l:Q1v → Prop):Q1v → Prop
 | .en s0=>an (decide (0 ≤ s0.c1) && decide (s0.c1 ≤ Int.ofNat s0.c0.length)) (bn ((List.take (s0.c0.length - s0.c1.toNat) (List.drop s0.c1.toNat s0.c0))[0]?) fun x16=>cnd (Int.ofNat x16.toNat == 124) (bn (S.g_HasPrefix (List.take (s0.c0.length - s0.c1.toNat) (List.drop s0.c1.toNat s0.c0)) [124,124]) fun x17=>cnd x17 (l (.l0 s0.c1 2 (List.take (s0.c0.length - s0.c1.toNat) (List.drop s0.c1.toNat s0.c0)) s0.c0 s0.ver)) (l (.l0 s0.c1 0 (List.take (s0.c0.length - s0.c1.toNat) (List.drop s0.c1.toNat s0.c0)) s0.c0 s0.ver))) (cnd (Int.ofNat x16.toNat == 60) (bn (S.g_HasPrefix (List.take (s0.c0.length - s0.c1.toNat) (List.drop s0.c1.toNat s0.c0)) [60,62]) fun x18=>cnd x18 (l (.l0 s0.c1 2 (List.take (s0.c0.length - s0.c1.toNat) (List.drop s0.c1.toNat s0.c0)) s0.c0 s0.ver)) (l (.l1 s0.c1 (List.take (s0.c0.length - s0.c1.toNat) (List.drop s0.c1.toNat s0.c0)) s0.c0 s0.ver))) (cnd (Int.ofNat x16.toNat == 62) (l (.l1 s0.c1 (List.take (s0.c0.length - s0.c1.toNat) (List.drop s0.c1.toNat s0.c0)) s0.c0 s0.ver)) (cnd (Int.ofNat x16.toNat == 40) (l (.l0 s0.c1 1 (List.take (s0.c0.length - s0.c1.toNat) (List.drop s0.c1.toNat s0.c0)) s0.c0 s0.ver)) (cnd (Int.ofNat x16.toNat == 41) (l (.l0 s0.c1 1 (List.take (s0.c0.length - s0.c1.toNat) (List.drop s0.c1.toNat s0.c0)) s0.c0 s0.ver)) (cnd (Int.ofNat x16.toNat == 44) (l (.l0 s0.c1 1 (List.take (s0.c0.length - s0.c1.toNat) (List.drop s0.c1.toNat s0.c0)) s0.c0 s0.ver)) (cnd (Int.ofNat x16.toNat == 59) (l (.l0 s0.c1 1 (List.take (s0.c0.length - s0.c1.toNat) (List.drop s0.c1.toNat s0.c0)) s0.c0 s0.ver)) (cnd (Int.ofNat x16.toNat == 46) (l (.l0 s0.c1 1 (List.take (s0.c0.length - s0.c1.toNat) (List.drop s0.c1.toNat s0.c0)) s0.c0 s0.ver)) (cnd (Int.ofNat x16.toNat == 42) (l (.l0 s0.c1 1 (List.take (s0.c0.length - s0.c1.toNat) (List.drop s0.c1.toNat s0.c0)) s0.c0 s0.ver)) (cnd (Int.ofNat x16.toNat == 43) (l (.l0 s0.c1 1 (List.take (s0.c0.length - s0.c1.toNat) (List.drop s0.c1.toNat s0.c0)) s0.c0 s0.ver)) (cnd (Int.ofNat x16.toNat == 45) (l (.l0 s0.c1 1 (List.take (s0.c0.length - s0.c1.toNat) (List.drop s0.c1.toNat s0.c0)) s0.c0 s0.ver)) (cnd (Int.ofNat x16.toNat == 47) (l (.l0 s0.c1 1 (List.take (s0.c0.length - s0.c1.toNat) (List.drop s0.c1.toNat s0.c0)) s0.c0 s0.ver)) (cnd (Int.ofNat x16.toNat == 37) (l (.l0 s0.c1 1 (List.take (s0.c0.length - s0.c1.toNat) (List.drop s0.c1.toNat s0.c0)) s0.c0 s0.ver)) (cnd (Int.ofNat x16.toNat == 61) (l (.l0 s0.c1 1 (List.take (s0.c0.length - s0.c1.toNat) (List.drop s0.c1.toNat s0.c0)) s0.c0 s0.ver)) (cnd (Int.ofNat x16.toNat == 123) (l (.l0 s0.c1 1 (List.take (s0.c0.length - s0.c1.toNat) (List.drop s0.c1.toNat s0.c0)) s0.c0 s0.ver)) (cnd (Int.ofNat x16.toNat == 125) (l (.l0 s0.c1 1 (List.take (s0.c0.length - s0.c1.toNat) (List.drop s0.c1.toNat s0.c0)) s0.c0 s0.ver)) (cnd (Int.ofNat x16.toNat == 58) (l (.l0 s0.c1 1 (List.take (s0.c0.length - s0.c1.toNat) (List.drop s0.c1.toNat s0.c0)) s0.c0 s0.ver)) (l (.l0 s0.c1 0 (List.take (s0.c0.length - s0.c1.toNat) (List.drop s0.c1.toNat s0.c0)) s0.c0 s0.ver)))))))))))))))))))
 | .eo s0 es0 w0=>an (decide (0 ≤ s0.c1) && decide (s0.c1 ≤ Int.ofNat s0.c0.length)) (bn ((List.take (s0.c0.length - s0.c1.toNat) (List.drop s0.c1.toNat s0.c0))[0]?) fun x19=>cnd (Int.ofNat x19.toNat == 124) (bn (S.g_HasPrefix (List.take (s0.c0.length - s0.c1.toNat) (List.drop s0.c1.toNat s0.c0)) [124,124]) fun x20=>cnd x20 (l (.l2 s0.c1 2 (List.take (s0.c0.length - s0.c1.toNat) (List.drop s0.c1.toNat s0.c0)) s0.c0 w0 es0 s0.ver)) (l (.l2 s0.c1 0 (List.take (s0.c0.length - s0.c1.toNat) (List.drop s0.c1.toNat s0.c0)) s0.c0 w0 es0 s0.ver))) (cnd (Int.ofNat x19.toNat == 60) (bn (S.g_HasPrefix (List.take (s0.c0.length - s0.c1.toNat) (List.drop s0.c1.toNat s0.c0)) [60,62]) fun x21=>cnd x21 (l (.l2 s0.c1 2 (List.take (s0.c0.length - s0.c1.toNat) (List.drop s0.c1.toNat s0.c0)) s0.c0 w0 es0 s0.ver)) (l (.l3 s0.c1 (List.take (s0.c0.length - s0.c1.toNat) (List.drop s0.c1.toNat s0.c0)) s0.c0 w0 es0 s0.ver))) (cnd (Int.ofNat x19.toNat == 62) (l (.l3 s0.c1 (List.take (s0.c0.length - s0.c1.toNat) (List.drop s0.c1.toNat s0.c0)) s0.c0 w0 es0 s0.ver)) (cnd (Int.ofNat x19.toNat == 40) (l (.l2 s0.c1 1 (List.take (s0.c0.length - s0.c1.toNat) (List.drop s0.c1.toNat s0.c0)) s0.c0 w0 es0 s0.ver)) (cnd (Int.ofNat x19.toNat == 41) (l (.l2 s0.c1 1 (List.take (s0.c0.length - s0.c1.toNat) (List.drop s0.c1.toNat s0.c0)) s0.c0 w0 es0 s0.ver)) (cnd (Int.ofNat x19.toNat == 44) (l (.l2 s0.c1 1 (List.take (s0.c0.length - s0.c1.toNat) (List.drop s0.c1.toNat s0.c0)) s0.c0 w0 es0 s0.ver)) (cnd (Int.ofNat x19.toNat == 59) (l (.l2 s0.c1 1 (List.take (s0.c0.length - s0.c1.toNat) (List.drop s0.c1.toNat s0.c0)) s0.c0 w0 es0 s0.ver)) (cnd (Int.ofNat x19.toNat == 46) (l (.l2 s0.c1 1 (List.take (s0.c0.length - s0.c1.toNat) (List.drop s0.c1.toNat s0.c0)) s0.c0 w0 es0 s0.ver)) (cnd (Int.ofNat x19.toNat == 42) (l (.l2 s0.c1 1 (List.take (s0.c0.length - s0.c1.toNat) (List.drop s0.c1.toNat s0.c0)) s0.c0 w0 es0 s0.ver)) (cnd (Int.ofNat x19.toNat == 43) (l (.l2 s0.c1 1 (List.take (s0.c0.length - s0.c1.toNat) (List.drop s0.c1.toNat s0.c0)) s0.c0 w0 es0 s0.ver)) (cnd (Int.ofNat x19.toNat == 45) (l (.l2 s0.c1 1 (List.take (s0.c0.length - s0.c1.toNat) (List.drop s0.c1.toNat s0.c0)) s0.c0 w0 es0 s0.ver)) (cnd (Int.ofNat x19.toNat == 47) (l (.l2 s0.c1 1 (List.take (s0.c0.length - s0.c1.toNat) (List.drop s0.c1.toNat s0.c0)) s0.c0 w0 es0 s0.ver)) (cnd (Int.ofNat x19.toNat == 37) (l (.l2 s0.c1 1 (List.take (s0.c0.length - s0.c1.toNat) (List.drop s0.c1.toNat s0.c0)) s0.c0 w0 es0 s0.ver)) (cnd (Int.ofNat x19.toNat == 61) (l (.l2 s0.c1 1 (List.take (s0.c0.length - s0.c1.toNat) (List.drop s0.c1.toNat s0.c0)) s0.c0 w0 es0 s0.ver)) (cnd (Int.ofNat x19.toNat == 123) (l (.l2 s0.c1 1 (List.take (s0.c0.length - s0.c1.toNat) (List.drop s0.c1.toNat s0.c0)) s0.c0 w0 es0 s0.ver)) (cnd (Int.ofNat x19.toNat == 125) (l (.l2 s0.c1 1 (List.take (s0.c0.length - s0.c1.toNat) (List.drop s0.c1.toNat s0.c0)) s0.c0 w0 es0 s0.ver)) (cnd (Int.ofNat x19.toNat == 58) (l (.l2 s0.c1 1 (List.take (s0.c0.length - s0.c1.toNat) (List.drop s0.c1.toNat s0.c0)) s0.c0 w0 es0 s0.ver)) (l (.l2 s0.c1 0 (List.take (s0.c0.length - s0.c1.toNat) (List.drop s0.c1.toNat s0.c0)) s0.c0 w0 es0 s0.ver)))))))))))))))))))
 | .l0 y0 y1 y2 y3 y4=>cnd (y1 == 0) (bn (S.t_form (B132.mk y3 y0 GC.n y4) y0) fun x22=>gcas x22.2.c2 (r (x22.1,(⟨x22.2.c0,x22.2.c1,.n,x22.2.ver⟩:B132))) False fun x23 w23=>r (x22.1,(⟨x22.2.c0,x22.2.c1,(.o x23 w23),x22.2.ver⟩:B132))) (an (decide (0 ≤ y1) && decide (y1 ≤ Int.ofNat y2.length)) (bn (S.t_put (B132.mk y3 (IntKind.i64.wrap (y0 + y1)) GC.n (y4 + 1)) (.agg [.int .i64 4,.str (List.take (y1.toNat - 0) (List.drop 0 y2)),.int .i64 0,.int .i64 y0])) fun x24=>gcas x24.2.c2 (r (x24.1,(⟨x24.2.c0,x24.2.c1,.n,x24.2.ver⟩:B132))) False fun x25 w25=>r (x24.1,(⟨x24.2.c0,x24.2.c1,(.o x25 w25),x24.2.ver⟩:B132))))
 | .l1 y0 y1 y2 y3=>cnd (decide (Int.ofNat y1.length > 1)) (bn (y1[1]?) fun x26=>cnd (Int.ofNat x26.toNat == 61) (l (.l0 y0 2 y1 y2 y3)) (l (.l0 y0 1 y1 y2 y3))) (l (.l0 y0 1 y1 y2 y3))
 | .l2 y0 y1 y2 y3 y4 y5 y6=>cnd (y1 == 0) (bn (S.t_form (B132.mk y3 y0 (GC.o y5 y4) y6) y0) fun x27=>gcas x27.2.c2 (r (x27.1,(⟨x27.2.c0,x27.2.c1,.n,x27.2.ver⟩:B132))) False fun x28 w28=>r (x27.1,(⟨x27.2.c0,x27.2.c1,(.o x28 w28),x27.2.ver⟩:B132))) (an (decide (0 ≤ y1) && decide (y1 ≤ Int.ofNat y2.length)) (bn (S.t_put (B132.mk y3 (IntKind.i64.wrap (y0 + y1)) (GC.o y5 y4) (y6 + 1)) (.agg [.int .i64 4,.str (List.take (y1.toNat - 0) (List.drop 0 y2)),.int .i64 0,.int .i64 y0])) fun x29=>gcas x29.2.c2 (r (x29.1,(⟨x29.2.c0,x29.2.c1,.n,x29.2.ver⟩:B132))) False fun x30 w30=>r (x29.1,(⟨x29.2.c0,x29.2.c1,(.o x30 w30),x29.2.ver⟩:B132))))
 | .l3 y0 y1 y2 y3 y4 y5=>cnd (decide (Int.ofNat y1.length > 1)) (bn (y1[1]?) fun x31=>cnd (Int.ofNat x31.toNat == 61) (l (.l2 y0 2 y1 y2 y3 y4 y5)) (l (.l2 y0 1 y1 y2 y3 y4 y5))) (l (.l2 y0 1 y1 y2 y3 y4 y5))
theorem Qfq (S:Q9):KOk Tryz.prog [true] 114 Tryz.f114 (Qg S) [([1,1,1,1],[(1,2),(6,65)],false),([1,0,0,0,1,0,1,1,1],[(1,2),(4,1),(6,65)],false)] 1 QjP ZW (QB S):=by intro K g v; cases v <;> kernel_rfl
theorem Qe6 {S:Q9}:Mono (QB S):=fun _ _ _ hl v=>by cases v <;> (dsimp only [QB]; repeat' first | apply Qv | apply QF | (refine QE fun _=>?_) | (refine Qr ?_ ?_ fun _ _=>?_) | apply Qs | exact hl _ | exact id)
def Q7k (S:Q9) (n:Nat) (s0:B132):Option (Int × B132):=gcas s0.c2 (rawN ZW (QB S) n (.en s0)) (none) fun es0 w0=>rawN ZW (QB S) n (.eo s0 es0 w0)
theorem QlC {S:Q9} (hS:Qf S) (n:Nat):EntryOk Tryz.prog (e37 114 (Q7k S n)):=HZ fun ⟨_,_,g0,_⟩ r hr=>by
 rcases g0 with _ | _ | ⟨_,_⟩
 ·exact Qd Q7 Tryz.func114 rfl hS (Qfq S) Qe6 rfl rfl hr
 ·exact nomatch (show (none:Option (Int × B132)) = some r from hr)
 ·exact Qd Q7 Tryz.func114 rfl hS (Qfq S) Qe6 rfl rfl hr
inductive Q7T where
 | en (s0:B132)
 | eo (s0:B132) (es0:List D) (w0:Nat)
 | l0 (y0:List UInt8) (y1:Int) (y2:Nat)
 | l1 (y0:List UInt8) (y1:Int) (y2:Nat) (y3:List D) (y4:Nat)
 | l2 (y0:List UInt8) (y1:Int) (y2:Nat)
 | l3 (y0:List UInt8) (y1:Int) (y2:Nat) (y3:List D) (y4:Nat)
def Qm7:Q7T → Pth × List AV × Heap
 | .en s0=>([],startT Tryz.f76 [.ptr (some (0,0))],[some (.cells 132 [.dat (.str (s0).c0),.dat (.int .i64 (s0).c1),.dat .nils] s0.ver)])
 | .eo s0 es0 w0=>([],startT Tryz.f76 [.ptr (some (0,0))],[some (.cells 132 [.dat (.str (s0).c0),.dat (.int .i64 (s0).c1),.own (.at 0 2 w0 107) es0] s0.ver)])
 | .l0 y0 y1 y2=>([1,0],mkT 72 [(0,.ptr (some (0,0)))],[some (.cells 132 [.dat (.str y0),.dat (.int .i64 y1),.dat .nils] y2)])
 | .l1 y0 y1 y2 y3 y4=>([1,0],mkT 72 [(0,.ptr (some (0,0)))],[some (.cells 132 [.dat (.str y0),.dat (.int .i64 y1),.own (.at 0 2 y2 107) y3] y4)])
 | .l2 y0 y1 y2=>([0,0,1,0],mkT 72 [(0,.ptr (some (0,0)))],[some (.cells 132 [.dat (.str y0),.dat (.int .i64 y1),.dat .nils] y2)])
 | .l3 y0 y1 y2 y3 y4=>([0,0,1,0],mkT 72 [(0,.ptr (some (0,0)))],[some (.cells 132 [.dat (.str y0),.dat (.int .i64 y1),.own (.at 0 2 y2 107) y3] y4)])
def ZJ (S:Q9) (r:B132 → Prop) (l:Q7T → Prop):Q7T → Prop
 | .en s0=>l (.l0 s0.c0 s0.c1 s0.ver)
 | .eo s0 es0 w0=>l (.l1 s0.c0 s0.c1 w0 es0 s0.ver)
 | .l0 y0 y1 y2=>l (.l2 y0 y1 y2)
 | .l1 y0 y1 y2 y3 y4=>l (.l3 y0 y1 y2 y3 y4)
 | .l2 y0 y1 y2=>cnd (decide (y1 < Int.ofNat y0.length)) (cnd (decide (y1 < 0)) False (bn (y0[y1.toNat]?) fun x12=>bn (S.g_IndexByte [32,9,10,13] (Int.ofNat x12.toNat)) fun x13=>cnd (decide (x13 ≥ 0)) (l (.l2 y0 (IntKind.i64.wrap (y1 + 1)) (y2 + 1))) (an (decide (0 ≤ y1) && decide (y1 ≤ Int.ofNat y0.length)) (bn (S.g_HasPrefix (List.take (y0.length - y1.toNat) (List.drop y1.toNat y0)) [45,45]) fun x14=>cnd (!x14) (r (⟨y0,y1,.n,y2⟩:B132)) (an (decide (0 ≤ y1) && decide (y1 ≤ Int.ofNat y0.length)) (bn (S.g_IndexByte (List.take (y0.length - y1.toNat) (List.drop y1.toNat y0)) 10) fun x15=>cnd (decide (x15 ≥ 0)) (l (.l0 y0 (IntKind.i64.wrap (y1 + x15)) (y2 + 1))) (r (⟨y0,(Int.ofNat y0.length),.n,y2 + 1⟩:B132)))))))) (an (decide (0 ≤ y1) && decide (y1 ≤ Int.ofNat y0.length)) (bn (S.g_HasPrefix (List.take (y0.length - y1.toNat) (List.drop y1.toNat y0)) [45,45]) fun x16=>cnd (!x16) (r (⟨y0,y1,.n,y2⟩:B132)) (an (decide (0 ≤ y1) && decide (y1 ≤ Int.ofNat y0.length)) (bn (S.g_IndexByte (List.take (y0.length - y1.toNat) (List.drop y1.toNat y0)) 10) fun x17=>cnd (decide (x17 ≥ 0)) (l (.l0 y0 (IntKind.i64.wrap (y1 + x17)) (y2 + 1))) (r (⟨y0,(Int.ofNat y0.length),.n,y2 + 1⟩:B132))))))
 | .l3 y0 y1 y2 y3 y4=>cnd (decide (y1 < Int.ofNat y0.length)) (cnd (decide (y1 < 0)) False (bn (y0[y1.toNat]?) fun x18=>bn (S.g_IndexByte [32,9,10,13] (Int.ofNat x18.toNat)) fun x19=>cnd (decide (x19 ≥ 0)) (l (.l3 y0 (IntKind.i64.wrap (y1 + 1)) y2 y3 (y4 + 1))) (an (decide (0 ≤ y1) && decide (y1 ≤ Int.ofNat y0.length)) (bn (S.g_HasPrefix (List.take (y0.length - y1.toNat) (List.drop y1.toNat y0)) [45,45]) fun x20=>cnd (!x20) (r (⟨y0,y1,(.o y3 y2),y4⟩:B132)) (an (decide (0 ≤ y1) && decide (y1 ≤ Int.ofNat y0.length)) (bn (S.g_IndexByte (List.take (y0.length - y1.toNat) (List.drop y1.toNat y0)) 10) fun x21=>cnd (decide (x21 ≥ 0)) (l (.l1 y0 (IntKind.i64.wrap (y1 + x21)) y2 y3 (y4 + 1))) (r (⟨y0,(Int.ofNat y0.length),(.o y3 y2),y4 + 1⟩:B132)))))))) (an (decide (0 ≤ y1) && decide (y1 ≤ Int.ofNat y0.length)) (bn (S.g_HasPrefix (List.take (y0.length - y1.toNat) (List.drop y1.toNat y0)) [45,45]) fun x22=>cnd (!x22) (r (⟨y0,y1,(.o y3 y2),y4⟩:B132)) (an (decide (0 ≤ y1) && decide (y1 ≤ Int.ofNat y0.length)) (bn (S.g_IndexByte (List.take (y0.length - y1.toNat) (List.drop y1.toNat y0)) 10) fun x23=>cnd (decide (x23 ≥ 0)) (l (.l1 y0 (IntKind.i64.wrap (y1 + x23)) y2 y3 (y4 + 1))) (r (⟨y0,(Int.ofNat y0.length),(.o y3 y2),y4 + 1⟩:B132))))))
theorem QeU (S:Q9):KOk Tryz.prog [true] 76 Tryz.f76 (Qg S) [([1,0],[(1,71)],false),([0,0,1,0],[(1,71)],false)] 1 Qm7 Q5J (ZJ S):=by intro K g v; cases v <;> kernel_rfl
theorem QdU {S:Q9}:Mono (ZJ S):=fun _ _ _ hl v=>by cases v <;> (dsimp only [ZJ]; repeat' first | apply Qv | apply QF | (refine QE fun _=>?_) | (refine Qr ?_ ?_ fun _ _=>?_) | apply Qs | exact hl _ | exact id)
def Q8d (S:Q9) (n:Nat) (s0:B132):Option (B132):=gcas s0.c2 (rawN Q5J (ZJ S) n (.en s0)) (none) fun es0 w0=>rawN Q5J (ZJ S) n (.eo s0 es0 w0)
theorem QkC {S:Q9} (hS:Qf S) (n:Nat):EntryOk Tryz.prog (e36 76 (Q8d S n)):=QmT fun ⟨_,_,g0,_⟩ r hr=>by
 rcases g0 with _ | _ | ⟨_,_⟩
 ·exact Qd Q7 Tryz.func76 rfl hS (QeU S) QdU rfl rfl hr
 ·exact nomatch (show (none:Option (B132)) = some r from hr)
 ·exact Qd Q7 Tryz.func76 rfl hS (QeU S) QdU rfl rfl hr
inductive Q8W where
 | e (a0:List UInt8)
def QkQ:Q8W → Pth × List AV × Heap
 | .e a0=>([],startT Tryz.f128 [.dat (.str a0)],[])
def QaP (S:Q9) (r:Bool → Prop) (l:Q8W → Prop):Q8W → Prop
 | .e a0=>cnd (a0 == [97,108,108]) (r true) (cnd (a0 == [97,110,100]) (r true) (cnd (a0 == [97,115]) (r true) (cnd (a0 == [98,101,103,105,110]) (r true) (cnd (a0 == [98,101,103,105,110,115]) (r true) (cnd (a0 == [98,101,116,119,101,101,110]) (r true) (cnd (a0 == [98,121]) (r true) (cnd (a0 == [99,97,108,108]) (r true) (cnd (a0 == [99,97,115,101]) (r true) (cnd (a0 == [99,97,116,99,104]) (r true) (cnd (a0 == [99,111,109,109,105,116]) (r true) (cnd (a0 == [100,101,108,101,116,101]) (r true) (cnd (a0 == [100,101,115,99]) (r true) (cnd (a0 == [100,105,115,116,105,110,99,116]) (r true) (cnd (a0 == [101,108,115,101]) (r true) (cnd (a0 == [101,110,100]) (r true) (cnd (a0 == [101,120,99,101,112,116]) (r true) (cnd (a0 == [101,120,105,115,116,115]) (r true) (cnd (a0 == [102,111,114]) (r true) (cnd (a0 == [102,114,111,109]) (r true) (cnd (a0 == [103,114,111,117,112]) (r true) (cnd (a0 == [104,97,118,105,110,103]) (r true) (cnd (a0 == [104,105,100,101]) (r true) (cnd (a0 == [105,102]) (r true) (cnd (a0 == [105,110]) (r true) (cnd (a0 == [105,110,112,117,116]) (r true) (cnd (a0 == [105,110,115,101,114,116]) (r true) (cnd (a0 == [105,110,116]) (r true) (cnd (a0 == [105,110,116,111]) (r true) (cnd (a0 == [105,110,116,101,114,115,101,99,116]) (r true) (cnd (a0 == [105,115]) (r true) (cnd (a0 == [106,111,105,110]) (r true) (cnd (a0 == [107,101,121]) (r true) (cnd (a0 == [108,101,102,116]) (r true) (cnd (a0 == [108,101,118,101,108]) (r true) (cnd (a0 == [108,101,118,101,108,115]) (r true) (cnd (a0 == [108,105,109,105,116]) (r true) (cnd (a0 == [110,111,116]) (r true) (cnd (a0 == [110,117,108,108]) (r true) (cnd (a0 == [111,110]) (r true) (cnd (a0 == [111,114]) (r true) (cnd (a0 == [111,114,100,101,114]) (r true) (cnd (a0 == [112,114,105,110,99,105,112,97,108]) (r true) (cnd (a0 == [112,114,105,110,116]) (r true) (cnd (a0 == [112,114,111,99]) (r true) (cnd (a0 == [114,97,105,115,101]) (r true) (cnd (a0 == [114,111,108,108,98,97,99,107]) (r true) (cnd (a0 == [114,111,119,115]) (r true) (cnd (a0 == [115,101,108,101,99,116]) (r true) (cnd (a0 == [115,101,116]) (r true) (cnd (a0 == [116,97,98,108,101]) (r true) (cnd (a0 == [116,101,120,116]) (r true) (cnd (a0 == [116,104,101,110]) (r true) (cnd (a0 == [116,114,117,101]) (r true) (cnd (a0 == [116,114,121]) (r true) (cnd (a0 == [102,97,108,115,101]) (r true) (cnd (a0 == [98,111,111,108]) (r true) (cnd (a0 == [117,110,105,111,110]) (r true) (cnd (a0 == [117,112,100,97,116,101]) (r true) (cnd (a0 == [118,97,108,117,101,115]) (r true) (cnd (a0 == [118,97,114]) (r true) (cnd (a0 == [118,105,115,105,98,108,101]) (r true) (cnd (a0 == [119,104,101,110]) (r true) (cnd (a0 == [119,104,101,114,101]) (r true) (cnd (a0 == [119,104,105,108,101]) (r true) (cnd (a0 == [99,104,97,110,110,101,108]) (r true) (cnd (a0 == [115,107,105,112]) (r true) (r false)))))))))))))))))))))))))))))))))))))))))))))))))))))))))))))))))))
theorem Qog (S:Q9):KOk Tryz.prog [] 128 Tryz.f128 (Qg S) [] 0 QkQ YB (QaP S):=by intro K g v; cases v <;> kernel_rfl
def Q99 (S:Q9) (n:Nat) (a0:List UInt8):Option (Bool):=rawN YB (QaP S) n (.e a0)
theorem Qld {S:Q9} (hS:Qf S) (n:Nat):EntryOk Tryz.prog (e10 128 (Q99 S n)):=YP fun _ _ hr=>Qd Q7 Tryz.func128 rfl hS (Qog S) (fun _ _ _ _ v=>by cases v <;> exact id) rfl rfl hr
inductive Q0e where
 | e (a0:D) (a1:D)
 | l0 (y0:Int) (y1:D) (y2:D)
 | l1 (y0:Int) (y1:D) (y2:D)
def Q7q:Q0e → Pth × List AV × Heap
 | .e a0 a1=>([],startT Tryz.f13 [.dat (G 38 a0),.dat (G 38 a1)],[])
 | .l0 y0 y1 y2=>([0,1,0,1,1],mkT 149 [(2,.ptr (some (0,0))),(3,.ptr (some (1,0))),(5,.dat (.int .i64 y0))],[some (sbx 38 y1 0),some (sbx 38 y2 0)])
 | .l1 y0 y1 y2=>([0,1,0,1,1,1],mkT 149 [(2,.ptr (some (0,0))),(3,.ptr (some (1,0))),(6,.dat (.int .i64 y0))],[some (sbx 38 y1 0),some (sbx 38 y2 0)])
def QO (S:Q9) (r:Bool → Prop) (l:Q0e → Prop):Q0e → Prop
 | .e a0 a1=>cnd (cI a0 0 != cI a1 0) (r false) (cnd (!cB a0 1 == cB a1 1) (r false) (cnd (cI a0 8 != cI a1 8) (r false) (bn (asL (cel a0 2)) fun x54=>bn (asL (cel a1 2)) fun x55=>cnd (Int.ofNat x54.length != Int.ofNat x55.length) (r false) (bn (asL (cel a0 7)) fun x56=>bn (asL (cel a1 7)) fun x57=>cnd (Int.ofNat x56.length != Int.ofNat x57.length) (r false) (l (.l0 0 a0 a1))))))
 | .l0 y0 y1 y2=>bn (asL (cel y1 2)) fun x58=>cnd (decide (y0 < Int.ofNat x58.length)) (bn (asL (cel y1 2)) fun x59=>bn (atD x59 y0) fun x60=>an (okG 83 x60) (bn (asL (cel y2 2)) fun x61=>bn (atD x61 y0) fun x62=>an (okG 83 x62) (cnd (!cS x60 6 == cS x62 6) (r false) (bn (asL (cel y1 2)) fun x63=>bn (atD x63 y0) fun x64=>an (okG 83 x64) (bn (asL (cel y2 2)) fun x65=>bn (atD x65 y0) fun x66=>an (okG 83 x66) (an (okG 26 (G 26 x64)) (an (okG 26 (G 26 x66)) (bn (S.r_SameExpr (G 26 x64) (G 26 x66)) fun x67=>cnd (!x67) (r false) (l (.l0 (IntKind.i64.wrap (y0 + 1)) y1 y2)))))))))) (l (.l1 0 y1 y2))
 | .l1 y0 y1 y2=>bn (asL (cel y1 7)) fun x68=>cnd (decide (y0 < Int.ofNat x68.length)) (bn (asL (cel y1 7)) fun x69=>bn (atD x69 y0) fun x70=>an (okG 85 x70) (bn (asL (cel y2 7)) fun x71=>bn (atD x71 y0) fun x72=>an (okG 85 x72) (cnd (!cB x70 6 == cB x72 6) (r false) (bn (asL (cel y1 7)) fun x73=>bn (atD x73 y0) fun x74=>an (okG 85 x74) (bn (asL (cel y2 7)) fun x75=>bn (atD x75 y0) fun x76=>an (okG 85 x76) (an (okG 26 (G 26 x74)) (an (okG 26 (G 26 x76)) (bn (S.r_SameExpr (G 26 x74) (G 26 x76)) fun x77=>cnd (!x77) (r false) (l (.l1 (IntKind.i64.wrap (y0 + 1)) y1 y2)))))))))) (bn (S.r_SameFroms (cel y1 3) (cel y2 3)) fun x78=>cnd x78 (bn (S.r_SameExprs (cel y1 4) (cel y2 4)) fun x79=>cnd x79 (bn (S.r_SameExprs (cel y1 5) (cel y2 5)) fun x80=>cnd x80 (bn (S.r_SameExprs (cel y1 6) (cel y2 6)) fun x81=>cnd x81 (bn (S.r_SameQueries (cel y1 9) (cel y2 9)) fun x82=>r x82) (r false)) (r false)) (r false)) (r false))
theorem Qag (S:Q9):KOk Tryz.prog [] 13 Tryz.f13 (Qg S) [([0,1,0,1,1],[(0,2),(4,1),(6,143)],false),([0,1,0,1,1,1],[(0,2),(4,2),(7,142)],false)] 0 Q7q Q1V (QO S):=by intro K g v; cases v <;> kernel_rfl
theorem Qam {S:Q9}:Mono (QO S):=fun _ _ _ hl v=>by cases v <;> (dsimp only [QO]; repeat' first | apply Qv | apply QF | (refine QE fun _=>?_) | (refine Qr ?_ ?_ fun _ _=>?_) | apply Qs | exact hl _ | exact id)
def Q18 (S:Q9) (n:Nat) (a0:D) (a1:D):Option (Bool):=rawN Q1V (QO S) n (.e a0 a1)
theorem Q9v {S:Q9} (hS:Qf S) (n:Nat):EntryOk Tryz.prog (e29 13 38 38 (Q18 S n)):=Q5j fun _ _ _ hr=>Qd Q7 Tryz.func13 rfl hS (Qag S) Qam rfl rfl hr
inductive Yw where
 | e (s0:B105) (a3:D)
 | l0 (y0:D) (y1:B105) (y2:D) (y3:Nat)
 | l1 (y0:D) (y1:Int) (y2:Int) (y3:B105) (y4:D) (y5:Nat)
def Q6P:Yw → Pth × List AV × Heap
 | .e s0 a3=>([],startT Tryz.f46 [.ptr (some (0,0)),.func (.func 148) [.ptr (some (0,0))] [],.func (.func 87) [.ptr (some (0,0))] [],.dat a3],[b105 s0 0])
 | .l0 y0 y1 y2 y3=>([1,1,0,1],mkT 30 [(1,.func (.func 148) [.ptr (some (0,0))] []),(2,.func (.func 87) [.ptr (some (0,0))] []),(3,.dat y0),(8,.ptr (some (1,0))),(9,.ptr (some (2,0)))],[some (o105 y1 0),some (.cells 26 [.dat (.int .i64 0),.dat (.int .i64 0),.dat (.str []),.dat (.str []),.dat .nils,.dat .nils] 0),some (sbx 26 y2 y3)])
 | .l1 y0 y1 y2 y3 y4 y5=>([0,1,0,1,1,0,1],mkT 30 [(1,.func (.func 148) [.ptr (some (0,0))] []),(2,.func (.func 87) [.ptr (some (0,0))] []),(3,.dat y0),(8,.ptr (some (1,0))),(9,.ptr (some (2,0))),(14,.dat y0),(15,.dat (.int .i64 y1)),(16,.dat (.int .i64 y2))],[some (o105 y3 0),some (.cells 26 [.dat (.int .i64 0),.dat (.int .i64 0),.dat (.str []),.dat (.str []),.dat .nils,.dat .nils] 0),some (sbx 26 y4 y5)])
def Jw (S:Q9) (r:D × B105 → Prop) (l:Yw → Prop):Yw → Prop
 | .e s0 a3=>bn (S.s_unary s0) fun x15=>an (okG 26 x15.1) (fl x15.1 [4,5] (l (.l0 a3 x15.2 x15.1 6)))
 | .l0 y0 y1 y2 y3=>bn (asL y0) fun x16=>l (.l1 y0 (Int.ofNat x16.length) 0 y1 y2 y3)
 | .l1 y0 y1 y2 y3 y4 y5=>cnd (decide (y2 < y1)) (bn (asL y0) fun x17=>bn (atD x17 y2) fun x18=>an x18.flat (bn (asS x18) fun x19=>bn (S.s_mark y3 x19) fun x20=>cnd x20.1 (bn (S.s_unary x20.2) fun x21=>an (okG 26 x21.1) (an (okG 26 (G 26 y4)) (an (okG 26 (G 26 x21.1)) (bn (S.s_bin x19 (G 26 y4) (G 26 x21.1)) fun x22=>an (okG 26 x22) (fl x22 [4,5] (l (.l0 y0 x21.2 x22 (y5 + 6)))))))) (l (.l1 y0 y1 (IntKind.i64.wrap (y2 + 1)) x20.2 y4 y5)))) (fl y4 [4,5] (r ((G 26 y4),y3)))
theorem Qaw (S:Q9):KOk Tryz.prog [] 46 Tryz.f46 (Qg S) [([1,1,0,1],[(0,1),(4,4),(10,20)],false),([0,1,0,1,1,0,1],[(0,1),(4,4),(10,4),(17,13)],false)] 1 Q6P Q1T (Jw S):=by intro K g v; cases v <;> kernel_rfl
theorem Qal {S:Q9}:Mono (Jw S):=fun _ _ _ hl v=>by cases v <;> (dsimp only [Jw]; repeat' first | apply Qv | apply QF | (refine QE fun _=>?_) | (refine Qr ?_ ?_ fun _ _=>?_) | apply Qs | exact hl _ | exact id)
def Q1a (S:Q9) (n:Nat) (s0:B105) (a3:D):Option (D × B105):=rawN Q1T (Jw S) n (.e s0 a3)
theorem Q8A {S:Q9} (hS:Qf S) (n:Nat):EntryOk Tryz.prog (e12 46 148 87 26 (Q1a S n)):=Q4y fun _ _ _ hr=>Qd Q7 Tryz.func46 rfl hS (Qaw S) Qal rfl rfl hr
inductive Yq where
 | e (s0:B105)
 | l0 (y0:List D) (y1:B105)
 | l1 (y0:List D) (y1:B105) (y2:Nat)
def Q88:Yq → Pth × List AV × Heap
 | .e s0=>([],startT Tryz.f89 [.ptr (some (0,0)),.func (.func 90) [.ptr (some (0,0))] []],[b105 s0 0])
 | .l0 y0 y1=>([0,0,1,1],mkT 17 [(0,.ptr (some (0,0))),(1,.func (.func 90) [.ptr (some (0,0))] []),(5,.own .full y0)],[some (o105 y1 0)])
 | .l1 y0 y1 y2=>([0,0,1,1],mkT 17 [(0,.ptr (some (0,0))),(1,.func (.func 90) [.ptr (some (0,0))] []),(5,.own (.tip 1) y0)],[some (o105 y1 0),some (.tip 83 y2 7)])
def Jz (S:Q9) (r:D × B105 → Prop) (l:Yq → Prop):Yq → Prop
 | .e s0=>bn (S.s_item s0) fun x5=>an (okG 83 x5.1) (l (.l0 [G 83 x5.1] x5.2))
 | .l0 y0 y1=>bn (S.s_mark y1 [44]) fun x6=>cnd x6.1 (bn (S.s_item x6.2) fun x7=>an (okG 83 x7.1) (fl x7.1 [4,5] (an (sized 7 y0) (an (roomOk (y0.length + 1) 112) (l (.l1 (y0 ++ [G 83 x7.1]) x7.2 (y0.length + 1))))))) (r ((.slice y0),x6.2))
 | .l1 y0 y1 y2=>bn (S.s_mark y1 [44]) fun x8=>cnd x8.1 (bn (S.s_item x8.2) fun x9=>an (okG 83 x9.1) (fl x9.1 [4,5] (an (y2 == y0.length) (an (roomOk (y2 + 1) 112) (l (.l1 (y0 ++ [G 83 x9.1]) x9.2 (y2 + 1))))))) (r ((.slice y0),x8.2))
theorem Qap (S:Q9):KOk Tryz.prog [] 89 Tryz.f89 (Qg S) [([0,0,1,1],[(2,3),(6,11)],false)] 1 Q88 Hh (Jz S):=by intro K g v; cases v <;> kernel_rfl
theorem Qai {S:Q9}:Mono (Jz S):=fun _ _ _ hl v=>by cases v <;> (dsimp only [Jz]; repeat' first | apply Qv | apply QF | (refine QE fun _=>?_) | (refine Qr ?_ ?_ fun _ _=>?_) | apply Qs | exact hl _ | exact id)
def Q1f (S:Q9) (n:Nat) (s0:B105):Option (D × B105):=rawN Hh (Jz S) n (.e s0)
theorem Q9e {S:Q9} (hS:Qf S) (n:Nat):EntryOk Tryz.prog (e15 89 90 (Q1f S n)):=Q00 fun _ _ hr=>Qd Q7 Tryz.func89 rfl hS (Qap S) Qai rfl rfl hr
inductive Yr where
 | e (s0:B105)
 | l0 (y0:List D) (y1:B105)
 | l1 (y0:List D) (y1:B105) (y2:Nat)
def Q9r:Yr → Pth × List AV × Heap
 | .e s0=>([],startT Tryz.f65 [.ptr (some (0,0)),.func (.func 66) [.ptr (some (0,0))] []],[b105 s0 0])
 | .l0 y0 y1=>([0,0,1,1],mkT 17 [(0,.ptr (some (0,0))),(1,.func (.func 66) [.ptr (some (0,0))] []),(5,.own .full y0)],[some (o105 y1 0)])
 | .l1 y0 y1 y2=>([0,0,1,1],mkT 17 [(0,.ptr (some (0,0))),(1,.func (.func 66) [.ptr (some (0,0))] []),(5,.own (.tip 1) y0)],[some (o105 y1 0),some (.tip 9 y2 1)])
def Js (S:Q9) (r:D × B105 → Prop) (l:Yr → Prop):Yr → Prop
 | .e s0=>bn (S.s_name s0) fun x5=>l (.l0 [.str x5.1] x5.2)
 | .l0 y0 y1=>bn (S.s_mark y1 [44]) fun x6=>cnd x6.1 (bn (S.s_name x6.2) fun x7=>an (sized 1 y0) (an (roomOk (y0.length + 1) 16) (l (.l1 (y0 ++ [D.str x7.1]) x7.2 (y0.length + 1))))) (r ((.slice y0),x6.2))
 | .l1 y0 y1 y2=>bn (S.s_mark y1 [44]) fun x8=>cnd x8.1 (bn (S.s_name x8.2) fun x9=>an (y2 == y0.length) (an (roomOk (y2 + 1) 16) (l (.l1 (y0 ++ [D.str x9.1]) x9.2 (y2 + 1))))) (r ((.slice y0),x8.2))
theorem Qay (S:Q9):KOk Tryz.prog [] 65 Tryz.f65 (Qg S) [([0,0,1,1],[(2,3),(6,11)],false)] 1 Q9r Hh (Js S):=by intro K g v; cases v <;> kernel_rfl
theorem Q9R {S:Q9}:Mono (Js S):=fun _ _ _ hl v=>by cases v <;> (dsimp only [Js]; repeat' first | apply Qv | apply QF | (refine QE fun _=>?_) | (refine Qr ?_ ?_ fun _ _=>?_) | apply Qs | exact hl _ | exact id)
def Q1c (S:Q9) (n:Nat) (s0:B105):Option (D × B105):=rawN Hh (Js S) n (.e s0)
theorem Q9f {S:Q9} (hS:Qf S) (n:Nat):EntryOk Tryz.prog (e15 65 66 (Q1c S n)):=Q00 fun _ _ hr=>Qd Q7 Tryz.func65 rfl hS (Qay S) Q9R rfl rfl hr
inductive Qcv where
 | en (s0:B132) (a1:D)
 | eo (s0:B132) (a1:D) (es0:List D) (w0:Nat)
def QnY:Qcv → Pth × List AV × Heap
 | .en s0 a1=>([],startT Tryz.f78 [.ptr (some (0,0)),.dat (G 107 a1)],[some (.cells 132 [.dat (.str (s0).c0),.dat (.int .i64 (s0).c1),.dat .nils] s0.ver)])
 | .eo s0 a1 es0 w0=>([],startT Tryz.f78 [.ptr (some (0,0)),.dat (G 107 a1)],[some (.cells 132 [.dat (.str (s0).c0),.dat (.int .i64 (s0).c1),.own (.at 0 2 w0 107) es0] s0.ver)])
def Q0p (S:Q9) (r:Int × B132 → Prop) (l:Qcv → Prop):Qcv → Prop
 | .en s0 a1=>r (0,(⟨s0.c0,s0.c1,(.o [G 107 a1] s0.ver),s0.ver + 1⟩:B132))
 | .eo s0 a1 es0 w0=>cnd (Int.ofNat es0.length == 6000) (r (8,(⟨s0.c0,(cI a1 3),(.o es0 w0),s0.ver + 1⟩:B132))) (an (w0.beq w0) (an (es0.length.beq es0.length) (cnd es0.isEmpty False (an (sized 4 es0) (an (roomOk (es0.length + 1) 40) (an ((es0.length + 1).beq (es0 ++ [G 107 a1]).length) (r (0,(⟨s0.c0,s0.c1,(.o (es0 ++ [G 107 a1]) s0.ver),s0.ver + 1⟩:B132)))))))))
theorem QiE (S:Q9):KOk Tryz.prog [true] 78 Tryz.f78 (Qg S) [] 1 QnY Q5P (Q0p S):=by intro K g v; cases v <;> kernel_rfl
def QbK (S:Q9) (n:Nat) (s0:B132) (a1:D):Option (Int × B132):=gcas s0.c2 (rawN Q5P (Q0p S) n (.en s0 a1)) (none) fun es0 w0=>rawN Q5P (Q0p S) n (.eo s0 a1 es0 w0)
theorem Qo7 {S:Q9} (hS:Qf S) (n:Nat):EntryOk Tryz.prog (e38 78 107 (QbK S n)):=Qn9 fun ⟨_,_,g0,_⟩ _ r hr=>by
 rcases g0 with _ | _ | ⟨_,_⟩
 ·exact Qd Q7 Tryz.func78 rfl hS (QiE S) (fun _ _ _ _ v=>by cases v <;> exact id) rfl rfl hr
 ·exact nomatch (show (none:Option (Int × B132)) = some r from hr)
 ·exact Qd Q7 Tryz.func78 rfl hS (QiE S) (fun _ _ _ _ v=>by cases v <;> exact id) rfl rfl hr
inductive HY where
 | en (s0:B167)
 | em (s0:B167)
 | eo (s0:B167) (es0:List D) (w0:Nat)
def Q9g:HY → Pth × List AV × Heap
 | .en s0=>([],startT Tryz.f147 [.ptr (some (0,0))],[some (.cells 167 [.ptr none,.dat .nils] s0.ver)])
 | .em s0=>([],startT Tryz.f147 [.ptr (some (0,0))],[some (.cells 167 [.ptr (some (0,0)),.dat .nils] s0.ver)])
 | .eo s0 es0 w0=>([],startT Tryz.f147 [.ptr (some (0,0))],[some (.cells 167 [.ptr (some (0,0)),.own (.at 0 1 w0 5) es0] s0.ver)])
def Y1 (S:Q9) (r:B167 → Prop) (l:HY → Prop):HY → Prop
 | .en s0=>r (⟨.m,s0.ver + 1⟩:B167)
 | .em s0=>r (⟨.m,s0.ver⟩:B167)
 | .eo s0 es0 w0=>r (⟨(.o es0 w0),s0.ver⟩:B167)
theorem Q05 (S:Q9):KOk Tryz.prog [true] 147 Tryz.f147 (Qg S) [] 1 Q9g Q4o (Y1 S):=by intro K g v; cases v <;> kernel_rfl
def Q1b (S:Q9) (n:Nat) (s0:B167):Option (B167):=gcas s0.c1 (rawN Q4o (Y1 S) n (.en s0)) (rawN Q4o (Y1 S) n (.em s0)) fun es0 w0=>rawN Q4o (Y1 S) n (.eo s0 es0 w0)
theorem Q9y {S:Q9} (hS:Qf S) (n:Nat):EntryOk Tryz.prog (e43 147 (Q1b S n)):=QmB fun ⟨g0,_⟩ r hr=>by
 rcases g0 with _ | _ | ⟨_,_⟩
 ·exact Qd Q7 Tryz.func147 rfl hS (Q05 S) (fun _ _ _ _ v=>by cases v <;> exact id) rfl rfl hr
 ·exact Qd Q7 Tryz.func147 rfl hS (Q05 S) (fun _ _ _ _ v=>by cases v <;> exact id) rfl rfl hr
 ·exact Qd Q7 Tryz.func147 rfl hS (Q05 S) (fun _ _ _ _ v=>by cases v <;> exact id) rfl rfl hr
inductive Q4J where
 | e (a0:List UInt8) (a1:Int)
def Qhc:Q4J → Pth × List AV × Heap
 | .e a0 a1=>([],startT Tryz.f28 [.dat (.str a0),.dat (.int .i64 a1),.func (.func 29) [] []],[])
def Q7c (S:Q9) (r:D × Int × Int → Prop) (l:Q4J → Prop):Q4J → Prop
 | .e a0 a1=>bn (S.t_Scan a0) fun x4=>cnd (x4.2.2 != 0) (r ((.agg [.int .i64 0,.bool false,.nils,.nils,.nils,.nils,.nils,.nils,.int .i64 0,.nils]),x4.2.1,x4.2.2)) (an x4.1.flat (bn (S.s_Query1 (B105.mk x4.1 0 a1 0 0)) fun x5=>an (okG 38 x5.1) (fl x5.1 [2,3,4,5,6,7,9] (bn (S.s_now x5.2) fun x6=>an (okG 107 x6.1) (cnd (cI x6.1 0 != 0) (bn (S.s_fail x6.2 10) fun x7=>cnd (x7.c4 != 0) (r ((.agg [.int .i64 0,.bool false,.nils,.nils,.nils,.nils,.nils,.nils,.int .i64 0,.nils]),x7.c3,x7.c4)) (fl x5.1 [2,3,4,5,6,7,9] (r ((G 38 x5.1),0,0)))) (cnd (x6.2.c4 != 0) (r ((.agg [.int .i64 0,.bool false,.nils,.nils,.nils,.nils,.nils,.nils,.int .i64 0,.nils]),x6.2.c3,x6.2.c4)) (fl x5.1 [2,3,4,5,6,7,9] (r ((G 38 x5.1),0,0)))))))))
theorem Qk6 (S:Q9):KOk Tryz.prog [] 28 Tryz.f28 (Qg S) [] 0 Qhc Q1E (Q7c S):=by intro K g v; cases v <;> kernel_rfl
def Q5U (S:Q9) (n:Nat) (a0:List UInt8) (a1:Int):Option (D × Int × Int):=rawN Q1E (Q7c S) n (.e a0 a1)
theorem Qg2 {S:Q9} (hS:Qf S) (n:Nat):EntryOk Tryz.prog (e16 28 29 38 (Q5U S n)):=Q4u fun _ _ _ hr=>Qd Q7 Tryz.func28 rfl hS (Qk6 S) (fun _ _ _ _ v=>by cases v <;> exact id) rfl rfl hr
inductive Qcm where
 | e (s0:B74)
def QmJ:Qcm → Pth × List AV × Heap
 | .e s0=>([],startT Tryz.f123 [.ptr (some (0,0))],[b74 s0 0])
def Q1B (S:Q9) (r:D × B74 → Prop) (l:Qcm → Prop):Qcm → Prop
 | .e s0=>bn (S.p_take s0 [40]) fun x9=>cnd x9.1 (bn (S.p_Query x9.2) fun x10=>an (okG 38 x10.1) (fl x10.1 [2,3,4,5,6,7,9] (bn (S.p_must x10.2 [41]) fun x11=>bn (S.p_must x11 [97,115]) fun x12=>bn (S.p_name x12) fun x13=>r ((.agg [.int .i64 2,.str [],.bool false,.str x13.1,D.slice [G 38 x10.1],.nils,.nils]),x13.2)))) (bn (S.p_name x9.2) fun x14=>bn (S.p_take x14.2 [118,105,115,105,98,108,101]) fun x15=>bn (S.p_take x15.2 [97,115]) fun x16=>cnd x16.1 (bn (S.p_name x16.2) fun x17=>r ((.agg [.int .i64 1,.str x14.1,.bool x15.1,.str x17.1,.nils,.nils,.nils]),x17.2)) (r ((.agg [.int .i64 1,.str x14.1,.bool x15.1,.str x14.1,.nils,.nils,.nils]),x16.2)))
theorem QpO (S:Q9):KOk Tryz.prog [] 123 Tryz.f123 (Qg S) [] 1 QmJ Jt (Q1B S):=by intro K g v; cases v <;> kernel_rfl
def Qbd (S:Q9) (n:Nat) (s0:B74):Option (D × B74):=rawN Jt (Q1B S) n (.e s0)
theorem Qpn {S:Q9} (hS:Qf S) (n:Nat):EntryOk Tryz.prog (e25 123 65 (Qbd S n)):=Je fun _ _ hr=>Qd Q7 Tryz.func123 rfl hS (QpO S) (fun _ _ _ _ v=>by cases v <;> exact id) rfl rfl hr
inductive Qi8 where
 | e (s0:B74) (a1:List UInt8)
def Qq1:Qi8 → Pth × List AV × Heap
 | .e s0 a1=>([],startT Tryz.f59 [.ptr (some (0,0)),.dat (.str a1)],[b74 s0 0])
def Q2u (S:Q9) (r:Bool × B74 → Prop) (l:Qi8 → Prop):Qi8 → Prop
 | .e s0 a1=>cnd (s0.c4 == 0) (bn (asL s0.c0) fun x8=>bn (atD x8 s0.c1) fun x9=>an (okG 107 x9) (cnd (cI x9 0 == 1) (bn (asL s0.c0) fun x10=>bn (atD x10 s0.c1) fun x11=>an (okG 107 x11) (r ((cS x11 1 == a1),s0))) (bn (asL s0.c0) fun x12=>bn (atD x12 s0.c1) fun x13=>an (okG 107 x13) (cnd (cI x13 0 == 4) (bn (asL s0.c0) fun x14=>bn (atD x14 s0.c1) fun x15=>an (okG 107 x15) (r ((cS x15 1 == a1),s0))) (r (false,s0)))))) (r (false,s0))
theorem Qro (S:Q9):KOk Tryz.prog [] 59 Tryz.f59 (Qg S) [] 1 Qq1 Q3B (Q2u S):=by intro K g v; cases v <;> kernel_rfl
def QdK (S:Q9) (n:Nat) (s0:B74) (a1:List UInt8):Option (Bool × B74):=rawN Q3B (Q2u S) n (.e s0 a1)
theorem Qqs {S:Q9} (hS:Qf S) (n:Nat):EntryOk Tryz.prog (e19 59 (QdK S n)):=QcW fun _ _ _ hr=>Qd Q7 Tryz.func59 rfl hS (Qro S) (fun _ _ _ _ v=>by cases v <;> exact id) rfl rfl hr
inductive He where
 | e (a0:List UInt8) (a1:List UInt8)
def Q6q:He → Pth × List AV × Heap
 | .e a0 a1=>([],startT Tryz.f131 [.dat (.str a0),.dat (.str a1)],[])
def YO (S:Q9) (r:Bool → Prop) (l:He → Prop):He → Prop
 | .e a0 a1=>cnd (decide (Int.ofNat a0.length ≥ Int.ofNat a1.length)) (an (decide (0 ≤ Int.ofNat a1.length) && decide (Int.ofNat a1.length ≤ Int.ofNat a0.length)) (r (List.take ((Int.ofNat a1.length).toNat - 0) (List.drop 0 a0) == a1))) (r false)
theorem Q7H (S:Q9):KOk Tryz.prog [] 131 Tryz.f131 (Qg S) [] 0 Q6q Q3Y (YO S):=by intro K g v; cases v <;> kernel_rfl
def Q0j (S:Q9) (n:Nat) (a0:List UInt8) (a1:List UInt8):Option (Bool):=rawN Q3Y (YO S) n (.e a0 a1)
theorem Q6u {S:Q9} (hS:Qf S) (n:Nat):EntryOk Tryz.prog (e41 131 (Q0j S n)):=Qcs fun _ _ _ hr=>Qd Q7 Tryz.func131 rfl hS (Q7H S) (fun _ _ _ _ v=>by cases v <;> exact id) rfl rfl hr
inductive Qd1 where
 | e (s0:B74)
def Qo3:Qd1 → Pth × List AV × Heap
 | .e s0=>([],startT Tryz.f25 [.ptr (some (0,0))],[b74 s0 0])
def Q20 (S:Q9) (r:Int × Int × B74 → Prop) (l:Qd1 → Prop):Qd1 → Prop
 | .e s0=>cnd (s0.c4 == 0) (bn (asL s0.c0) fun x3=>bn (atD x3 s0.c1) fun x4=>an (okG 107 x4) (cnd (cI x4 0 != 0) (bn (S.p_bad s0 10) fun x5=>cnd (x5.c4 == 0) (r (0,0,x5)) (r (x5.c3,x5.c4,x5))) (cnd (s0.c4 == 0) (r (0,0,s0)) (r (s0.c3,s0.c4,s0))))) (cnd (s0.c4 == 0) (r (0,0,s0)) (r (s0.c3,s0.c4,s0)))
theorem QpC (S:Q9):KOk Tryz.prog [] 25 Tryz.f25 (Qg S) [] 1 Qo3 Q83 (Q20 S):=by intro K g v; cases v <;> kernel_rfl
def Qbk (S:Q9) (n:Nat) (s0:B74):Option (Int × Int × B74):=rawN Q83 (Q20 S) n (.e s0)
theorem QnU {S:Q9} (hS:Qf S) (n:Nat):EntryOk Tryz.prog (e27 25 (Qbk S n)):=Qmy fun _ _ hr=>Qd Q7 Tryz.func25 rfl hS (QpC S) (fun _ _ _ _ v=>by cases v <;> exact id) rfl rfl hr
inductive Q03 where
 | e (s0:B105)
def Q9M:Q03 → Pth × List AV × Heap
 | .e s0=>([],startT Tryz.f116 [.ptr (some (0,0))],[b105 s0 0])
def Zp (S:Q9) (r:D × B105 → Prop) (l:Q03 → Prop):Q03 → Prop
 | .e s0=>bn (S.s_need s0 [40]) fun x3=>bn (S.s_query x3) fun x4=>an (okG 38 x4.1) (fl x4.1 [2,3,4,5,6,7,9] (bn (S.s_need x4.2 [41]) fun x5=>fl x4.1 [2,3,4,5,6,7,9] (r ((G 38 x4.1),x5))))
theorem Qa5 (S:Q9):KOk Tryz.prog [] 116 Tryz.f116 (Qg S) [] 1 Q9M Jj (Zp S):=by intro K g v; cases v <;> kernel_rfl
def Q1i (S:Q9) (n:Nat) (s0:B105):Option (D × B105):=rawN Jj (Zp S) n (.e s0)
theorem Q7o {S:Q9} (hS:Qf S) (n:Nat):EntryOk Tryz.prog (e0 116 38 (Q1i S n)):=QR fun _ _ hr=>Qd Q7 Tryz.func116 rfl hS (Qa5 S) (fun _ _ _ _ v=>by cases v <;> exact id) rfl rfl hr
inductive Q4V where
 | e (s0:B105)
def Qim:Q4V → Pth × List AV × Heap
 | .e s0=>([],startT Tryz.f148 [.ptr (some (0,0))],[b105 s0 0])
def Ho (S:Q9) (r:D × B105 → Prop) (l:Q4V → Prop):Q4V → Prop
 | .e s0=>bn (S.s_mark s0 [45]) fun x3=>cnd x3.1 (bn (S.s_inner_neg x3.2 7) fun x4=>an (okG 26 x4.1) (fl x4.1 [4,5] (r ((G 26 x4.1),x4.2)))) (bn (S.s_prim x3.2) fun x5=>an (okG 26 x5.1) (fl x5.1 [4,5] (r ((G 26 x5.1),x5.2))))
theorem Qli (S:Q9):KOk Tryz.prog [] 148 Tryz.f148 (Qg S) [] 1 Qim Jj (Ho S):=by intro K g v; cases v <;> kernel_rfl
def Q5G (S:Q9) (n:Nat) (s0:B105):Option (D × B105):=rawN Jj (Ho S) n (.e s0)
theorem QhV {S:Q9} (hS:Qf S) (n:Nat):EntryOk Tryz.prog (e0 148 26 (Q5G S n)):=QR fun _ _ hr=>Qd Q7 Tryz.func148 rfl hS (Qli S) (fun _ _ _ _ v=>by cases v <;> exact id) rfl rfl hr
inductive Q2a where
 | e (a0:List UInt8)
def Qdg:Q2a → Pth × List AV × Heap
 | .e a0=>([],startT Tryz.f158 [.dat (.str a0)],[])
def Q3A (S:Q9) (r:Bool → Prop) (l:Q2a → Prop):Q2a → Prop
 | .e a0=>cnd (a0 == [99,111,117,110,116]) (r true) (cnd (a0 == [115,117,109]) (r true) (cnd (a0 == [109,105,110]) (r true) (cnd (a0 == [109,97,120]) (r true) (r false))))
theorem QdX (S:Q9):KOk Tryz.prog [] 158 Tryz.f158 (Qg S) [] 0 Qdg YB (Q3A S):=by intro K g v; cases v <;> kernel_rfl
def Q2F (S:Q9) (n:Nat) (a0:List UInt8):Option (Bool):=rawN YB (Q3A S) n (.e a0)
theorem Qd7 {S:Q9} (hS:Qf S) (n:Nat):EntryOk Tryz.prog (e10 158 (Q2F S n)):=YP fun _ _ hr=>Qd Q7 Tryz.func158 rfl hS (QdX S) (fun _ _ _ _ v=>by cases v <;> exact id) rfl rfl hr
inductive Q9G where
 | e (s0:B105) (a1:List UInt8)
def QkX:Q9G → Pth × List AV × Heap
 | .e s0 a1=>([],startT Tryz.f87 [.ptr (some (0,0)),.dat (.str a1)],[b105 s0 0])
def Q52 (S:Q9) (r:Bool × B105 → Prop) (l:Q9G → Prop):Q9G → Prop
 | .e s0 a1=>bn (S.s_sees s0 4 a1) fun x2=>cnd x2.1 (bn (S.s_next x2.2) fun x3=>r (x2.1,x3)) (r (x2.1,x2.2))
theorem Qpw (S:Q9):KOk Tryz.prog [] 87 Tryz.f87 (Qg S) [] 1 QkX Qdt (Q52 S):=by intro K g v; cases v <;> kernel_rfl
def Q9H (S:Q9) (n:Nat) (s0:B105) (a1:List UInt8):Option (Bool × B105):=rawN Qdt (Q52 S) n (.e s0 a1)
theorem QlL {S:Q9} (hS:Qf S) (n:Nat):EntryOk Tryz.prog (e4 87 (Q9H S n)):=Qj9 fun _ _ _ hr=>Qd Q7 Tryz.func87 rfl hS (Qpw S) (fun _ _ _ _ v=>by cases v <;> exact id) rfl rfl hr
inductive Q9n where
 | e (s0:B105)
def Qlq:Q9n → Pth × List AV × Heap
 | .e s0=>([],startT Tryz.f83 [.ptr (some (0,0))],[b105 s0 0])
def Q5g (S:Q9) (r:B105 → Prop) (l:Q9n → Prop):Q9n → Prop
 | .e s0=>bn (asL s0.c0) fun x1=>cnd (decide (s0.c1 < IntKind.i64.wrap (Int.ofNat x1.length - 1))) (r (B105.mk s0.c0 (IntKind.i64.wrap (s0.c1 + 1)) s0.c2 s0.c3 s0.c4)) (r s0)
theorem QnW (S:Q9):KOk Tryz.prog [] 83 Tryz.f83 (Qg S) [] 1 Qlq QcX (Q5g S):=by intro K g v; cases v <;> kernel_rfl
def Q7t (S:Q9) (n:Nat) (s0:B105):Option (B105):=rawN QcX (Q5g S) n (.e s0)
theorem Qln {S:Q9} (hS:Qf S) (n:Nat):EntryOk Tryz.prog (e3 83 (Q7t S n)):=Qio fun _ _ hr=>Qd Q7 Tryz.func83 rfl hS (QnW S) (fun _ _ _ _ v=>by cases v <;> exact id) rfl rfl hr
inductive Q7Y where
 | e (s0:B105) (a1:List UInt8)
def Qm3:Q7Y → Pth × List AV × Heap
 | .e s0 a1=>([],startT Tryz.f71 [.ptr (some (0,0)),.dat (.str a1)],[b105 s0 0])
def Q4R (S:Q9) (r:B105 → Prop) (l:Q7Y → Prop):Q7Y → Prop
 | .e s0 a1=>bn (S.s_mark s0 a1) fun x2=>cnd (!x2.1) (bn (S.s_fail x2.2 10) fun x3=>r x3) (r x2.2)
theorem QnK (S:Q9):KOk Tryz.prog [] 71 Tryz.f71 (Qg S) [] 1 Qm3 QcA (Q4R S):=by intro K g v; cases v <;> kernel_rfl
def Q8T (S:Q9) (n:Nat) (s0:B105) (a1:List UInt8):Option (B105):=rawN QcA (Q4R S) n (.e s0 a1)
theorem Qkn {S:Q9} (hS:Qf S) (n:Nat):EntryOk Tryz.prog (e5 71 (Q8T S n)):=Qjm fun _ _ _ hr=>Qd Q7 Tryz.func71 rfl hS (QnK S) (fun _ _ _ _ v=>by cases v <;> exact id) rfl rfl hr
inductive Q2S where
 | e (s0:B105)
def Qeh:Q2S → Pth × List AV × Heap
 | .e s0=>([],startT Tryz.f29 [.ptr (some (0,0))],[b105 s0 0])
def Q5M (S:Q9) (r:D × B105 → Prop) (l:Q2S → Prop):Q2S → Prop
 | .e s0=>bn (S.s_query s0) fun x1=>an (okG 38 x1.1) (fl x1.1 [2,3,4,5,6,7,9] (r ((G 38 x1.1),x1.2)))
theorem Qhd (S:Q9):KOk Tryz.prog [] 29 Tryz.f29 (Qg S) [] 1 Qeh Jj (Q5M S):=by intro K g v; cases v <;> kernel_rfl
def Q47 (S:Q9) (n:Nat) (s0:B105):Option (D × B105):=rawN Jj (Q5M S) n (.e s0)
theorem QdY {S:Q9} (hS:Qf S) (n:Nat):EntryOk Tryz.prog (e0 29 38 (Q47 S n)):=QR fun _ _ hr=>Qd Q7 Tryz.func29 rfl hS (Qhd S) (fun _ _ _ _ v=>by cases v <;> exact id) rfl rfl hr
inductive Q4W where
 | e (a0:Int)
def Qih:Q4W → Pth × List AV × Heap
 | .e a0=>([],startT Tryz.f133 [.dat (.int .u8 a0)],[])
def Q3k (S:Q9) (r:Bool → Prop) (l:Q4W → Prop):Q4W → Prop
 | .e a0=>bn (S.t_letter a0) fun x2=>cnd x2 (r true) (bn (S.t_digit a0) fun x3=>r x3)
theorem Qkc (S:Q9):KOk Tryz.prog [] 133 Tryz.f133 (Qg S) [] 0 Qih Yz (Q3k S):=by intro K g v; cases v <;> kernel_rfl
def Q5C (S:Q9) (n:Nat) (a0:Int):Option (Bool):=rawN Yz (Q3k S) n (.e a0)
theorem QgJ {S:Q9} (hS:Qf S) (n:Nat):EntryOk Tryz.prog (e32 133 (Q5C S n)):=YQ fun _ _ hr=>Qd Q7 Tryz.func133 rfl hS (Qkc S) (fun _ _ _ _ v=>by cases v <;> exact id) rfl rfl hr
end
end Go.Proofs.YtfdcjngclelnhaaGreat
