/- The types of the seat's program, as the symbolic machine wants them. Written by a program of this claim's author. -/
import Derived.Test.YthechjccpljljaaProg
import Derived.Test.YthechjccpljljaaSymB
namespace Go.Proofs.Ythechjccpljljaa
open Go.Sym

def ti2 : TI := ⟨.int .i64, 1, 8, [(.int .i64 0)]⟩
theorem ti2_ok : TIOK Try.prog 2 ti2 := ⟨by kernel_rfl, by kernel_rfl, by kernel_rfl⟩
def ti3 : TI := ⟨.int .i64, 1, 8, [(.int .i64 0)]⟩
theorem ti3_ok : TIOK Try.prog 3 ti3 := ⟨by kernel_rfl, by kernel_rfl, by kernel_rfl⟩
def ti4 : TI := ⟨.bool, 1, 1, [(.bool false)]⟩
theorem ti4_ok : TIOK Try.prog 4 ti4 := ⟨by kernel_rfl, by kernel_rfl, by kernel_rfl⟩
def ti5 : TI := ⟨.int .u8, 1, 1, [(.int .u8 0)]⟩
theorem ti5_ok : TIOK Try.prog 5 ti5 := ⟨by kernel_rfl, by kernel_rfl, by kernel_rfl⟩
def ti12 : TI := ⟨.int .u64, 1, 8, [(.int .u64 0)]⟩
theorem ti12_ok : TIOK Try.prog 12 ti12 := ⟨by kernel_rfl, by kernel_rfl, by kernel_rfl⟩
def ti21 : TI := ⟨.int .i32, 1, 4, [(.int .i32 0)]⟩
theorem ti21_ok : TIOK Try.prog 21 ti21 := ⟨by kernel_rfl, by kernel_rfl, by kernel_rfl⟩
def ti22 : TI := ⟨.int .u64, 1, 8, [(.int .u64 0)]⟩
theorem ti22_ok : TIOK Try.prog 22 ti22 := ⟨by kernel_rfl, by kernel_rfl, by kernel_rfl⟩
def ti23 : TI := ⟨.array 4 22, 4, 32, [(.int .u64 0), (.int .u64 0), (.int .u64 0), (.int .u64 0)]⟩
theorem ti23_ok : TIOK Try.prog 23 ti23 := ⟨by kernel_rfl, by kernel_rfl, by kernel_rfl⟩
def ti24 : TI := ⟨.array 4 22, 4, 32, [(.int .u64 0), (.int .u64 0), (.int .u64 0), (.int .u64 0)]⟩
theorem ti24_ok : TIOK Try.prog 24 ti24 := ⟨by kernel_rfl, by kernel_rfl, by kernel_rfl⟩
def ti26 : TI := ⟨.slice 3, 1, 24, [(.slice none 0 0)]⟩
theorem ti26_ok : TIOK Try.prog 26 ti26 := ⟨by kernel_rfl, by kernel_rfl, by kernel_rfl⟩
def ti37 : TI := ⟨.slice 5, 1, 24, [(.slice none 0 0)]⟩
theorem ti37_ok : TIOK Try.prog 37 ti37 := ⟨by kernel_rfl, by kernel_rfl, by kernel_rfl⟩
def ti38 : TI := ⟨.int .i64, 1, 8, [(.int .i64 0)]⟩
theorem ti38_ok : TIOK Try.prog 38 ti38 := ⟨by kernel_rfl, by kernel_rfl, by kernel_rfl⟩
def ti46 : TI := ⟨.array 8 22, 8, 64, [(.int .u64 0), (.int .u64 0), (.int .u64 0), (.int .u64 0), (.int .u64 0), (.int .u64 0), (.int .u64 0), (.int .u64 0)]⟩
theorem ti46_ok : TIOK Try.prog 46 ti46 := ⟨by kernel_rfl, by kernel_rfl, by kernel_rfl⟩
def ti47 : TI := ⟨.array 8 22, 8, 64, [(.int .u64 0), (.int .u64 0), (.int .u64 0), (.int .u64 0), (.int .u64 0), (.int .u64 0), (.int .u64 0), (.int .u64 0)]⟩
theorem ti47_ok : TIOK Try.prog 47 ti47 := ⟨by kernel_rfl, by kernel_rfl, by kernel_rfl⟩
def ti49 : TI := ⟨.slice 22, 1, 24, [(.slice none 0 0)]⟩
theorem ti49_ok : TIOK Try.prog 49 ti49 := ⟨by kernel_rfl, by kernel_rfl, by kernel_rfl⟩
def ti60 : TI := ⟨.int .u64, 1, 8, [(.int .u64 0)]⟩
theorem ti60_ok : TIOK Try.prog 60 ti60 := ⟨by kernel_rfl, by kernel_rfl, by kernel_rfl⟩
def ti62 : TI := ⟨.ptr 88, 1, 8, [(.pointer none)]⟩
theorem ti62_ok : TIOK Try.prog 62 ti62 := ⟨by kernel_rfl, by kernel_rfl, by kernel_rfl⟩
def ti73 : TI := ⟨.array 3 24, 12, 96, [(.int .u64 0), (.int .u64 0), (.int .u64 0), (.int .u64 0), (.int .u64 0), (.int .u64 0), (.int .u64 0), (.int .u64 0), (.int .u64 0), (.int .u64 0), (.int .u64 0), (.int .u64 0)]⟩
theorem ti73_ok : TIOK Try.prog 73 ti73 := ⟨by kernel_rfl, by kernel_rfl, by kernel_rfl⟩
def ti74 : TI := ⟨.int .u32, 1, 4, [(.int .u32 0)]⟩
theorem ti74_ok : TIOK Try.prog 74 ti74 := ⟨by kernel_rfl, by kernel_rfl, by kernel_rfl⟩
def ti75 : TI := ⟨.array 2 74, 2, 8, [(.int .u32 0), (.int .u32 0)]⟩
theorem ti75_ok : TIOK Try.prog 75 ti75 := ⟨by kernel_rfl, by kernel_rfl, by kernel_rfl⟩
def ti85 : TI := ⟨.struct [(0, 24), (4, 22), (5, 24), (9, 24)], 13, 104, [(.int .u64 0), (.int .u64 0), (.int .u64 0), (.int .u64 0), (.int .u64 0), (.int .u64 0), (.int .u64 0), (.int .u64 0), (.int .u64 0), (.int .u64 0), (.int .u64 0), (.int .u64 0), (.int .u64 0)]⟩
theorem ti85_ok : TIOK Try.prog 85 ti85 := ⟨by kernel_rfl, by kernel_rfl, by kernel_rfl⟩
def ti86 : TI := ⟨.struct [(0, 24), (4, 22), (5, 24), (9, 24)], 13, 104, [(.int .u64 0), (.int .u64 0), (.int .u64 0), (.int .u64 0), (.int .u64 0), (.int .u64 0), (.int .u64 0), (.int .u64 0), (.int .u64 0), (.int .u64 0), (.int .u64 0), (.int .u64 0), (.int .u64 0)]⟩
theorem ti86_ok : TIOK Try.prog 86 ti86 := ⟨by kernel_rfl, by kernel_rfl, by kernel_rfl⟩
def ti87 : TI := ⟨.struct [(0, 86)], 13, 104, [(.int .u64 0), (.int .u64 0), (.int .u64 0), (.int .u64 0), (.int .u64 0), (.int .u64 0), (.int .u64 0), (.int .u64 0), (.int .u64 0), (.int .u64 0), (.int .u64 0), (.int .u64 0), (.int .u64 0)]⟩
theorem ti87_ok : TIOK Try.prog 87 ti87 := ⟨by kernel_rfl, by kernel_rfl, by kernel_rfl⟩
def ti88 : TI := ⟨.struct [(0, 86)], 13, 104, [(.int .u64 0), (.int .u64 0), (.int .u64 0), (.int .u64 0), (.int .u64 0), (.int .u64 0), (.int .u64 0), (.int .u64 0), (.int .u64 0), (.int .u64 0), (.int .u64 0), (.int .u64 0), (.int .u64 0)]⟩
theorem ti88_ok : TIOK Try.prog 88 ti88 := ⟨by kernel_rfl, by kernel_rfl, by kernel_rfl⟩
def ti94 : TI := ⟨.struct [(0, 26), (1, 26)], 2, 48, [(.slice none 0 0), (.slice none 0 0)]⟩
theorem ti94_ok : TIOK Try.prog 94 ti94 := ⟨by kernel_rfl, by kernel_rfl, by kernel_rfl⟩
def ti95 : TI := ⟨.struct [(0, 26), (1, 26)], 2, 48, [(.slice none 0 0), (.slice none 0 0)]⟩
theorem ti95_ok : TIOK Try.prog 95 ti95 := ⟨by kernel_rfl, by kernel_rfl, by kernel_rfl⟩
def ti97 : TI := ⟨.ptr 86, 1, 8, [(.pointer none)]⟩
theorem ti97_ok : TIOK Try.prog 97 ti97 := ⟨by kernel_rfl, by kernel_rfl, by kernel_rfl⟩
def ti109 : TI := ⟨.ptr 5, 1, 8, [(.pointer none)]⟩
theorem ti109_ok : TIOK Try.prog 109 ti109 := ⟨by kernel_rfl, by kernel_rfl, by kernel_rfl⟩
def ti112 : TI := ⟨.struct [(0, 12), (1, 12), (2, 74), (3, 106), (4, 5), (5, 5), (6, 107), (7, 108), (8, 109), (9, 110), (10, 111)], 11, 48, [(.int .u64 0), (.int .u64 0), (.int .u32 0), (.int .u8 0), (.int .u8 0), (.int .u8 0), (.int .u8 0), .nilFunc, (.pointer none), (.int .i32 0), (.int .i32 0)]⟩
theorem ti112_ok : TIOK Try.prog 112 ti112 := ⟨by kernel_rfl, by kernel_rfl, by kernel_rfl⟩
def tt : TT := [(2, ti2), (3, ti3), (4, ti4), (5, ti5), (12, ti12), (21, ti21), (22, ti22), (23, ti23), (24, ti24), (26, ti26), (37, ti37), (38, ti38), (46, ti46), (47, ti47), (49, ti49), (60, ti60), (62, ti62), (73, ti73), (74, ti74), (75, ti75), (85, ti85), (86, ti86), (87, ti87), (88, ti88), (94, ti94), (95, ti95), (97, ti97), (109, ti109), (112, ti112)]
theorem tt_ok : TTOK Try.prog tt := .cons ti2_ok <| .cons ti3_ok <| .cons ti4_ok <| .cons ti5_ok <| .cons ti12_ok <| .cons ti21_ok <| .cons ti22_ok <| .cons ti23_ok <| .cons ti24_ok <| .cons ti26_ok <| .cons ti37_ok <| .cons ti38_ok <| .cons ti46_ok <| .cons ti47_ok <| .cons ti49_ok <| .cons ti60_ok <| .cons ti62_ok <| .cons ti73_ok <| .cons ti74_ok <| .cons ti75_ok <| .cons ti85_ok <| .cons ti86_ok <| .cons ti87_ok <| .cons ti88_ok <| .cons ti94_ok <| .cons ti95_ok <| .cons ti97_ok <| .cons ti109_ok <| .cons ti112_ok <| .nil _
theorem mixed : Try.prog.follows .mixedOrders = true := by kernel_rfl

end Go.Proofs.Ythechjccpljljaa
